/- The evaluator without fuel, with its equations. Own work. -/
import Derived.Test.YtbcpffhialoliaaEvFun
namespace Go.Ev
open Go
set_option linter.unusedVariables false
set_option linter.unusedSimpArgs false

def LeC (a b : Callee) : Prop := ∀ f x H r, a f x H = some r → b f x H = some r
def LeL (a b : Looper) : Prop := ∀ L c s r, a L c s = some r → b L c s = some r

section
variable {c1 c2 : Callee} {l1 l2 : Looper}

theorem doCallB_mono (h : LeC c1 c2) {f : FuncId} {args : List AV} {r : Bool} {H : Heap} {v : AV × Heap} (he : doCallB c1 f args r H = some v) : doCallB c2 f args r H = some v := by
  unfold doCallB at he ⊢
  simp only at he ⊢
  split at he
  · simp at he
  · rename_i hc
    rw [h _ _ _ _ hc]; exact he
theorem doCallQ_mono (h : LeC c1 c2) {f : FuncId} {args : List AV} {H : Heap} {v : AV × Heap} (he : doCallQ c1 f args H = some v) : doCallQ c2 f args H = some v := by
  unfold doCallQ at he ⊢
  simp only at he ⊢
  split at he
  · rename_i hr
    rw [if_pos hr]
    split at he
    · simp at he
    · rename_i hc
      rw [h _ _ _ _ hc]; exact he
  · simp at he
theorem doCallP_mono (h : LeC c1 c2) {f : FuncId} {args : List AV} {H : Heap} {v : AV × Heap} (he : doCallP c1 f args H = some v) : doCallP c2 f args H = some v := by
  obtain ⟨r, H'⟩ := v
  obtain ⟨i, o, rest, cs, ds, rfl, hcs, hrest, hc, hv, rfl⟩ := doCallP_inv he
  unfold doCallP
  simp only [hcs, hrest, if_true, h _ _ _ _ hc, hv]
theorem doCall_mono (h : LeC c1 c2) {f : FuncId} {args : List AV} {r : Nat} {H : Heap} {v : AV × Heap} (he : doCall c1 f args r H = some v) : doCall c2 f args r H = some v := by
  unfold doCall at he ⊢
  split at he
  · exact doCallB_mono h he
  · exact doCallB_mono h he
  · exact doCallP_mono h he
  · exact doCallQ_mono h he
theorem evO_mono (h : LeC c1 c2) {s : St} {o : O} {v : AV × Heap} (he : evO c1 s o = some v) : evO c2 s o = some v := by
  cases o
  case call => simp only [evO] at he ⊢; exact doCall_mono h he
  case callv =>
    simp only [evO] at he ⊢
    split at he
    · exact doCall_mono h he
    · exact doCall_mono h he
    · simp at he
  all_goals exact he
theorem runQ_mono (h : LeC c1 c2) {s : St} {q : Q} {v : AV × Heap} (he : runQ c1 s q = some v) : runQ c2 s q = some v := by
  unfold runQ at he ⊢
  split at he
  · split at he
    · rename_i hv; rw [evO_mono h hv]; exact he
    · simp at he
  · exact he
  · simp at he
  · split at he
    · rename_i hv; rw [evO_mono h hv]; exact he
    · simp at he
theorem evQ_mono (h : LeC c1 c2) {s : St} {q : Q} {v : St} (he : evQ c1 s q = some v) : evQ c2 s q = some v := by
  unfold evQ at he ⊢
  split at he
  · split at he
    · rename_i hv; rw [runQ_mono h hv]; exact he
    · simp at he
  · exact he
  · simp at he
theorem evL_mono (h : LeC c1 c2) : ∀ (l : List Q) (s : St) (v : St), evL c1 l s = some v → evL c2 l s = some v
  | [], s, v, he => he
  | q :: l, s, v, he => by
    simp only [evL] at he ⊢
    split at he
    · rename_i hq; rw [evQ_mono h hq]; exact evL_mono h l _ v he
    · simp at he
theorem evC_mono (h : LeC c1 c2) (hl : LeL l1 l2) : ∀ (c : C) (s : St) (v : Ex × St), evC c1 l1 c s = some v → evC c2 l2 c s = some v := by
  intro c
  induction c with
  | reg l | drw l b ne | drr l b ne old nor =>
    intro s v he
    simp only [evC] at he ⊢
    split at he
    · rename_i hq; rw [evL_mono h _ _ _ hq]; exact he
    · simp at he
  | seq a b ih1 ih2 =>
    intro s v he
    simp only [evC] at he ⊢
    split at he
    · rename_i hq; rw [ih1 _ _ hq]; exact ih2 _ _ he
    · rename_i hne
      rw [ih1 _ _ he]
      obtain ⟨e, st⟩ := v
      cases e with
      | normal => exact absurd he (hne _)
      | exit => rfl
      | ret => rfl
  | cond x a b ih1 ih2 =>
    intro s v he
    simp only [evC] at he ⊢
    split at he
    · rename_i t ht
      cases t
      · exact ih2 _ _ (by simpa using he)
      · exact ih1 _ _ (by simpa using he)
    · simp at he
  | block id a ih =>
    intro s v he
    simp only [evC] at he ⊢
    split at he
    · rename_i hq; rw [ih _ _ hq]; exact he
    · rename_i hne
      rw [ih _ _ he]
      obtain ⟨e, st⟩ := v
      cases e with
      | normal => rfl
      | exit id' => exact absurd he (hne _ _)
      | ret => rfl
  | loop L a ih => intro s v he; simp only [evC] at he ⊢; exact hl _ _ _ _ he
  | ann L a ih => intro s v he; simp only [evC] at he ⊢; exact ih _ _ he
  | scp a ih => intro s v he; simp only [evC] at he ⊢; exact ih _ _ he
  | _ => intro s v he; exact he
theorem evF_mono (h : LeC c1 c2) (hl : LeL l1 l2) {fn : F} {x : List AV} {H : Heap} {v : AV × Heap} (he : evF c1 l1 fn x H = some v) : evF c2 l2 fn x H = some v := by
  unfold evF at he ⊢
  split at he
  · rename_i hc; rw [evC_mono h hl _ _ _ hc]; exact he
  · rename_i hc; rw [evC_mono h hl _ _ _ hc]; exact he
  · simp at he
end

variable {ir : IR}
theorem fuel_mono : ∀ n, LeC (callN ir n) (callN ir (n + 1)) ∧ LeL (loopN ir n) (loopN ir (n + 1))
  | 0 => ⟨fun f x H r h => by simp [callN] at h, fun L c s r h => by simp [loopN] at h⟩
  | n + 1 => by
    obtain ⟨h1, h2⟩ := fuel_mono n
    refine ⟨fun f x H r h => ?_, fun L c s r h => ?_⟩
    · rw [callN] at h ⊢
      split at h
      · exact evF_mono h1 h2 h
      · exact h
    · rw [loopN] at h ⊢
      split at h
      · rename_i hc; rw [evC_mono h1 h2 _ _ _ hc]; exact h2 _ _ _ _ h
      · rename_i hne
        rw [evC_mono h1 h2 _ _ _ h]
        obtain ⟨e, st⟩ := r
        cases e with
        | normal => exact absurd h (hne _)
        | exit => rfl
        | ret => rfl
theorem callN_le {n m : Nat} (h : n ≤ m) : LeC (callN ir n) (callN ir m) := by
  induction h with
  | refl => exact fun _ _ _ _ h => h
  | step _ ih => exact fun f x H r h => (fuel_mono _).1 f x H r (ih f x H r h)
theorem loopN_le {n m : Nat} (h : n ≤ m) : LeL (loopN ir n) (loopN ir m) := by
  induction h with
  | refl => exact fun _ _ _ _ h => h
  | step _ ih => exact fun f x H r h => (fuel_mono _).2 f x H r (ih f x H r h)

open Classical in
noncomputable def call (ir : IR) : Callee := fun f x H => if h : ∃ n, (callN ir n f x H).isSome = true then callN ir h.choose f x H else none
open Classical in
noncomputable def loop (ir : IR) : Looper := fun L c s => if h : ∃ n, (loopN ir n L c s).isSome = true then loopN ir h.choose L c s else none

theorem call_of {n : Nat} {f : FuncId} {x : List AV} {H : Heap} {r : AV × Heap} (h : callN ir n f x H = some r) : call ir f x H = some r := by
  have he : ∃ n, (callN ir n f x H).isSome = true := ⟨n, by simp [h]⟩
  simp only [call, dif_pos he]
  have hs := he.choose_spec
  cases hc : callN ir he.choose f x H with
  | none => rw [hc] at hs; simp at hs
  | some r' =>
    have a1 := callN_le (Nat.le_max_left n he.choose) f x H r h
    have a2 := callN_le (Nat.le_max_right n he.choose) f x H r' hc
    rw [a1] at a2; exact a2.symm
theorem call_inv {f : FuncId} {x : List AV} {H : Heap} {r : AV × Heap} (h : call ir f x H = some r) : ∃ n, callN ir n f x H = some r := by
  unfold call at h
  split at h
  · exact ⟨_, h⟩
  · simp at h
theorem loop_of {n : Nat} {L : List Nat} {c : C} {s : St} {r : Ex × St} (h : loopN ir n L c s = some r) : loop ir L c s = some r := by
  have he : ∃ n, (loopN ir n L c s).isSome = true := ⟨n, by simp [h]⟩
  simp only [loop, dif_pos he]
  have hs := he.choose_spec
  cases hc : loopN ir he.choose L c s with
  | none => rw [hc] at hs; simp at hs
  | some r' =>
    have a1 := loopN_le (Nat.le_max_left n he.choose) L c s r h
    have a2 := loopN_le (Nat.le_max_right n he.choose) L c s r' hc
    rw [a1] at a2; exact a2.symm
theorem loop_inv {L : List Nat} {c : C} {s : St} {r : Ex × St} (h : loop ir L c s = some r) : ∃ n, loopN ir n L c s = some r := by
  unfold loop at h
  split at h
  · exact ⟨_, h⟩
  · simp at h

/-! ### what the limit gives, some fuel gives -/
theorem doCallB_fin {f : FuncId} {args : List AV} {r : Bool} {H : Heap} {v : AV × Heap} (he : doCallB (call ir) f args r H = some v) : ∃ n, doCallB (callN ir n) f args r H = some v := by
  unfold doCallB at he
  simp only at he
  split at he
  · simp at he
  · rename_i hc
    obtain ⟨n, hn⟩ := call_inv hc
    refine ⟨n, ?_⟩
    unfold doCallB
    simp only
    rw [hn]; exact he
theorem doCallQ_fin {f : FuncId} {args : List AV} {H : Heap} {v : AV × Heap} (he : doCallQ (call ir) f args H = some v) : ∃ n, doCallQ (callN ir n) f args H = some v := by
  unfold doCallQ at he
  simp only at he
  split at he
  · rename_i hr
    split at he
    · simp at he
    · rename_i hc
      obtain ⟨n, hn⟩ := call_inv hc
      refine ⟨n, ?_⟩
      unfold doCallQ
      simp only
      rw [if_pos hr, hn]; exact he
  · simp at he
theorem doCallP_fin {f : FuncId} {args : List AV} {H : Heap} {v : AV × Heap} (he : doCallP (call ir) f args H = some v) : ∃ n, doCallP (callN ir n) f args H = some v := by
  obtain ⟨r, H'⟩ := v
  obtain ⟨i, o, rest, cs, ds, rfl, hcs, hrest, hc, hv, rfl⟩ := doCallP_inv he
  obtain ⟨n, hn⟩ := call_inv hc
  refine ⟨n, ?_⟩
  unfold doCallP
  simp only [hcs, hrest, if_true, hn, hv]
theorem doCall_fin {f : FuncId} {args : List AV} {r : Nat} {H : Heap} {v : AV × Heap} (he : doCall (call ir) f args r H = some v) : ∃ n, doCall (callN ir n) f args r H = some v := by
  unfold doCall at he ⊢
  split at he
  · exact doCallB_fin he
  · exact doCallB_fin he
  · exact doCallP_fin he
  · exact doCallQ_fin he
theorem evO_fin {s : St} {o : O} {v : AV × Heap} (he : evO (call ir) s o = some v) : ∃ n, evO (callN ir n) s o = some v := by
  cases o
  case call => simp only [evO] at he ⊢; exact doCall_fin he
  case callv =>
    simp only [evO] at he ⊢
    split at he
    · exact doCall_fin he
    · exact doCall_fin he
    · simp at he
  all_goals exact ⟨0, he⟩
theorem runQ_fin {s : St} {q : Q} {v : AV × Heap} (he : runQ (call ir) s q = some v) : ∃ n, runQ (callN ir n) s q = some v := by
  unfold runQ at he ⊢
  split at he
  · split at he
    · rename_i hv
      obtain ⟨n, hn⟩ := evO_fin hv
      exact ⟨n, by rw [hn]; exact he⟩
    · simp at he
  · exact ⟨0, he⟩
  · simp at he
  · split at he
    · rename_i hv
      obtain ⟨n, hn⟩ := evO_fin hv
      exact ⟨n, by rw [hn]; exact he⟩
    · simp at he
theorem evQ_fin {s : St} {q : Q} {v : St} (he : evQ (call ir) s q = some v) : ∃ n, evQ (callN ir n) s q = some v := by
  unfold evQ at he ⊢
  split at he
  · split at he
    · rename_i hv
      obtain ⟨n, hn⟩ := runQ_fin hv
      exact ⟨n, by rw [hn]; exact he⟩
    · simp at he
  · exact ⟨0, he⟩
  · simp at he
theorem evL_fin : ∀ (l : List Q) (s : St) (v : St), evL (call ir) l s = some v → ∃ n, evL (callN ir n) l s = some v
  | [], s, v, he => ⟨0, he⟩
  | q :: l, s, v, he => by
    simp only [evL] at he
    split at he
    · rename_i s' hq
      obtain ⟨n, hn⟩ := evQ_fin hq
      obtain ⟨m, hm⟩ := evL_fin l _ v he
      refine ⟨max n m, ?_⟩
      simp only [evL]
      rw [evQ_mono (callN_le (Nat.le_max_left n m)) hn]
      exact evL_mono (callN_le (Nat.le_max_right n m)) _ _ _ hm
    · simp at he
theorem evC_fin : ∀ (c : C) (s : St) (v : Ex × St), evC (call ir) (loop ir) c s = some v → ∃ n, evC (callN ir n) (loopN ir n) c s = some v := by
  intro c
  induction c with
  | reg l | drw l b ne | drr l b ne old nor =>
    intro s v he
    simp only [evC] at he ⊢
    split at he
    · rename_i hq
      obtain ⟨n, hn⟩ := evL_fin _ _ _ hq
      exact ⟨n, by rw [hn]; exact he⟩
    · simp at he
  | seq a b ih1 ih2 =>
    intro s v he
    simp only [evC] at he ⊢
    split at he
    · rename_i hq
      obtain ⟨n, hn⟩ := ih1 _ _ hq
      obtain ⟨m, hm⟩ := ih2 _ _ he
      refine ⟨max n m, ?_⟩
      rw [evC_mono (callN_le (Nat.le_max_left n m)) (loopN_le (Nat.le_max_left n m)) _ _ _ hn]
      exact evC_mono (callN_le (Nat.le_max_right n m)) (loopN_le (Nat.le_max_right n m)) _ _ _ hm
    · rename_i hne
      obtain ⟨n, hn⟩ := ih1 _ _ he
      refine ⟨n, ?_⟩
      rw [hn]
      obtain ⟨e, st⟩ := v
      cases e with
      | normal => exact absurd he (hne _)
      | exit => rfl
      | ret => rfl
  | cond x a b ih1 ih2 =>
    intro s v he
    simp only [evC] at he ⊢
    split at he
    · rename_i t ht
      cases t
      · obtain ⟨n, hn⟩ := ih2 _ _ (by simpa using he)
        exact ⟨n, by simpa using hn⟩
      · obtain ⟨n, hn⟩ := ih1 _ _ (by simpa using he)
        exact ⟨n, by simpa using hn⟩
    · simp at he
  | block id a ih =>
    intro s v he
    simp only [evC] at he ⊢
    split at he
    · rename_i hq
      obtain ⟨n, hn⟩ := ih _ _ hq
      exact ⟨n, by rw [hn]; exact he⟩
    · rename_i hne
      obtain ⟨n, hn⟩ := ih _ _ he
      refine ⟨n, ?_⟩
      rw [hn]
      obtain ⟨e, st⟩ := v
      cases e with
      | normal => rfl
      | exit id' => exact absurd he (hne _ _)
      | ret => rfl
  | loop L a ih =>
    intro s v he
    simp only [evC] at he ⊢
    exact loop_inv he
  | scp a ih =>
    intro s v he
    simp only [evC] at he ⊢
    exact ih _ _ he
  | ann L a ih =>
    intro s v he
    simp only [evC] at he ⊢
    exact ih _ _ he
  | _ => intro s v he; exact ⟨0, he⟩
theorem evF_fin {fn : F} {x : List AV} {H : Heap} {v : AV × Heap} (he : evF (call ir) (loop ir) fn x H = some v) : ∃ n, evF (callN ir n) (loopN ir n) fn x H = some v := by
  unfold evF at he
  split at he
  · rename_i hc
    obtain ⟨n, hn⟩ := evC_fin _ _ _ hc
    refine ⟨n, ?_⟩
    unfold evF
    rw [hn]; exact he
  · rename_i hc
    obtain ⟨n, hn⟩ := evC_fin _ _ _ hc
    refine ⟨n, ?_⟩
    unfold evF
    rw [hn]; exact he
  · simp at he

theorem le_call (n : Nat) : LeC (callN ir n) (call ir) := fun _ _ _ _ h => call_of h
theorem le_loop (n : Nat) : LeL (loopN ir n) (loop ir) := fun _ _ _ _ h => loop_of h

theorem call_eq {f : FuncId} {fn : F} (hf : ir.fn f = some fn) (x : List AV) (H : Heap) : call ir f x H = evF (call ir) (loop ir) fn x H := by
  apply Option.ext
  intro r
  constructor
  · intro h
    obtain ⟨n, hn⟩ := call_inv h
    cases n with
    | zero => simp [callN] at hn
    | succ n =>
      rw [callN, hf] at hn
      exact evF_mono (le_call n) (le_loop n) hn
  · intro h
    obtain ⟨n, hn⟩ := evF_fin h
    refine call_of (n := n + 1) ?_
    rw [callN, hf]; exact hn

theorem loop_eq (L : List Nat) (c : C) (s : St) : loop ir L c s = match evC (call ir) (loop ir) c (clean L s) with
    | some (.normal, s') => loop ir L c s'
    | r => r := by
  apply Option.ext
  intro r
  constructor
  · intro h
    obtain ⟨n, hn⟩ := loop_inv h
    cases n with
    | zero => simp [loopN] at hn
    | succ n =>
      rw [loopN] at hn
      split at hn
      · rename_i hc; rw [evC_mono (le_call n) (le_loop n) _ _ _ hc]; exact loop_of hn
      · rename_i hne
        rw [evC_mono (le_call n) (le_loop n) _ _ _ hn]
        obtain ⟨e, st⟩ := r
        cases e with
        | normal => exact absurd hn (hne _)
        | exit => rfl
        | ret => rfl
  · intro h
    split at h
    · rename_i hc
      obtain ⟨n, hn⟩ := evC_fin _ _ _ hc
      obtain ⟨m, hm⟩ := loop_inv h
      refine loop_of (n := max n m + 1) ?_
      rw [loopN, evC_mono (callN_le (Nat.le_max_left n m)) (loopN_le (Nat.le_max_left n m)) _ _ _ hn]
      exact loopN_le (Nat.le_max_right n m) _ _ _ _ hm
    · rename_i hne
      obtain ⟨n, hn⟩ := evC_fin _ _ _ h
      refine loop_of (n := n + 1) ?_
      rw [loopN, hn]
      obtain ⟨e, st⟩ := r
      cases e with
      | normal => exact absurd h (hne _)
      | exit => rfl
      | ret => rfl

theorem call_sound {P : Program} (ht : Tab P ir) : CallSnd P (call ir) := by
  intro f args H r H' h
  obtain ⟨n, hn⟩ := call_inv h
  exact (fuel_sound ht n).1 f args H r H' hn
end Go.Ev
