/- Functions and loops: the model's do what the evaluator says; the evaluator by fuel is sound. Own work. -/
import Derived.Test.YtbcpffhialoliaaEvCode
namespace Go.Ev
open Go
set_option linter.unusedVariables false
set_option linter.unusedSimpArgs false
section
variable {w0 w : World} {S0 S : Sta} {ρ0 ρ : Pos} {H0 H : Heap} {P : Program} {call : Callee} {lp : Looper} {st : St} {a : Act}

def resOf (t : Array Value) : ResultVar → Sem Value
  | .tmp x => pure (t.getD x undef)
  | .cell x ty => do loadVar ty (← asAddr (t.getD x undef))
theorem results_eq (fn : Func) (t : Array Value) : results fn t = (do
    let vs ← fn.results.mapM (resOf t)
    pure (if h : vs.size = 1 then vs[0] else .tuple vs)) := by
  unfold results
  congr 1

theorem results_sound (hr : Rel w S ρ st.h) (hs : SlotsR w S ρ st.s a.tmps) : ∀ (l : List ResultVar) (rs : List RV) (vs : List AV), allO (cR P) l = some rs → evR st rs = some vs →
    ∃ us : List Value, (l.mapM (resOf a.tmps)).run P w = .ok us w ∧ vs.length = us.length ∧ ∀ i, i < vs.length → VR w S ρ (vs.getD i .unk) (us.getD i undef)
  | [], rs, vs, h, he => by
    simp only [allO, Option.some.injEq] at h; subst h
    simp only [evR, Option.some.injEq] at he; subst he
    exact ⟨[], by simp, rfl, fun i hi => by simp at hi⟩
  | x :: l, rs, vs, h, he => by
    simp only [allO] at h
    split at h
    case h_2 => simp at h
    rename_i y r hy hr'
    injection h with h; subst h
    cases x with
    | tmp t =>
      simp only [cR, Option.some.injEq] at hy; subst hy
      simp only [evR] at he
      split at he
      case h_2 => simp at he
      rename_i vs' hvs
      injection he with he; subst he
      obtain ⟨us, h1, h2, h3⟩ := results_sound hr hs l r vs' hr' hvs
      refine ⟨a.tmps.getD t undef :: us, ?_, by simp [h2], fun i hi => ?_⟩
      · rw [List.mapM_cons]
        simp only [resOf, Sem.run_bind, Sem.run_pure, Result.andThen_ok, h1]
      · cases i with
        | zero => exact hs.get t
        | succ i => exact h3 i (by simpa using hi)
    | cell t ty =>
      simp only [cR] at hy
      split at hy
      case h_2 => injection hy with hy; subst hy; simp [evR] at he
      rename_i d inf hu hi
      have key : ∃ n g, y = .cell t n g ∧ ∀ v, loadA st.h (st.s.getD t .unk) n g = some v → ∃ u, (do loadVar ty (← asAddr (a.tmps.getD t undef)) : Sem Value).run P w = .ok u w ∧ VR w S ρ v u := by
        split at hy
        · rename_i hd
          injection hy with hy
          refine ⟨_, _, hy.symm, fun v hv => ?_⟩
          obtain ⟨b, us, he', hl, hc, hx⟩ := loadA_sound hr (hs.get t) hv
          refine ⟨_, ?_, hx⟩
          rw [he']
          simp only [asAddr, Sem.run_bind, Sem.run_pure, Result.andThen_ok, loadVar, run_isAgg hu, hd, if_true, run_sizeOf hi]
          rw [← hl, run_loadCells_list w b us (list_of_getD hl hc)]
          rfl
        · rename_i hd
          injection hy with hy
          refine ⟨_, _, hy.symm, fun v hv => ?_⟩
          obtain ⟨b, u, he', hc, hx⟩ := loadA_sound hr (hs.get t) hv
          refine ⟨u, ?_, hx⟩
          rw [he']
          simp only [asAddr, Sem.run_bind, Sem.run_pure, Result.andThen_ok, loadVar, run_isAgg hu, hd, Bool.false_eq_true, if_false]
          simp [hc]
      obtain ⟨n, g, rfl, hload⟩ := key
      simp only [evR] at he
      split at he
      case h_2 => simp at he
      rename_i v vs' hv hvs
      injection he with he; subst he
      obtain ⟨us, h1, h2, h3⟩ := results_sound hr hs l r vs' hr' hvs
      obtain ⟨u, hu1, hu2⟩ := hload v hv
      refine ⟨u :: us, ?_, by simp [h2], fun i hi => ?_⟩
      · rw [List.mapM_cons]
        have hu3 : (resOf a.tmps (.cell t ty)).run P w = .ok u w := hu1
        simp only [Sem.run_bind, hu3, Sem.run_pure, Result.andThen_ok, h1]
      · cases i with
        | zero => exact hu2
        | succ i => exact h3 i (by simpa using hi)

theorem oneOf_sound {vs : List AV} {us : List Value} (hl : vs.length = us.length) (hv : ∀ i, i < vs.length → VR w S ρ (vs.getD i .unk) (us.getD i undef)) :
    VR w S ρ (oneOf vs) (if h : us.toArray.size = 1 then us.toArray[0] else .tuple us.toArray) := by
  unfold oneOf
  split
  · rename_i v
    cases us with
    | nil => simp at hl
    | cons u us =>
      cases us with
      | nil => exact hv 0 (by simp)
      | cons => simp at hl
  · rename_i hne
    rw [dif_neg (fun hh => by
      rw [List.size_toArray] at hh
      cases vs with
      | nil => simp at hl; omega
      | cons v vs => cases vs with
        | nil => exact hne v rfl
        | cons => simp at hl; omega)]
    exact .tup _ _ (by simpa using hl) (fun i hi => by rw [getD_arr]; exact hv i hi)

theorem init_slots {args : List AV} {cargs : Array Value} (hl : args.length = cargs.size) (hv : ∀ i, i < args.length → VR w S ρ (args.getD i .unk) (cargs.getD i undef)) (n : Nat) :
    SlotsR w S ρ (args ++ List.replicate (n - args.length) .unk) (cargs ++ Array.replicate (n - cargs.size) undef) := by
  refine ⟨by simp [hl], fun i hi => ?_⟩
  rw [getD_app]
  by_cases h : i < args.length
  · rw [if_pos h, ← toList_getD, Array.toList_append, getD_app, if_pos (by simp; omega), toList_getD]
    exact hv i h
  · rw [if_neg h]
    have : (List.replicate (n - args.length) AV.unk).getD (i - args.length) .unk = .unk := by
      simp only [List.getD_eq_getElem?_getD, List.getElem?_replicate]
      split <;> rfl
    rw [this]; exact .unk _

theorem cF_inv {f : FuncId} {g : F} (h : cF P f = some g) : ∃ fn c, P.funcs[f]? = some fn ∧ fn.body = some c ∧ fn.name ≠ "runtime.NumGoroutine" ∧ g.n = fn.ntmps ∧ cC P c = some g.body ∧ allO (cR P) fn.results.toList = some g.res := by
  unfold cF at h
  split at h
  case h_2 => simp at h
  rename_i fn hf
  split at h
  case h_2 => simp at h
  rename_i c hb
  split at h
  case h_2 => simp at h
  rename_i b rs h1 h2
  split at h
  case isFalse => simp at h
  rename_i hn
  injection h with h; subst h
  exact ⟨fn, c, hf, hb, hn, rfl, h1, h2⟩

theorem evF_sound (hmx : P.follows .mixedOrders = true) (hcall : CallSnd P call) (hlp : LoopSnd P lp) {f : FuncId} {fn : F} (hf : cF P f = some fn.strip) (hk : fn.body.okD = true) {args : List AV} {r : AV} {H' : Heap} (he : evF call lp fn args H = some (r, H')) :
    HasBody P f ∧ ∀ (w : World) (S : Sta) (ρ : Pos) (cargs : Array Value), Rel w S ρ H → args.length = cargs.size → (∀ i, i < args.length → VR w S ρ (args.getD i .unk) (cargs.getD i undef)) →
      Calls P f cargs w fun e w' => ∃ cv S' ρ', e = .returned cv ∧ Evo w S ρ H w' S' ρ' H' ∧ VR w' S' ρ' r cv := by
  obtain ⟨mf, c, h1, h2, h3, h4, h5, h6⟩ := cF_inv hf
  refine ⟨⟨mf, h1, by simp [h2], h3⟩, fun w S ρ cargs hr hl hv => ?_⟩
  refine calls_of_wp h1 h2 ?_
  have h4' : fn.n = mf.ntmps := h4
  have h5' : cC P c = some fn.body.strip := h5
  have h6' : allO (cR P) mf.results.toList = some fn.res := h6
  have hinv : Inv w S ρ H w S ρ { m := H.length, s := args ++ List.replicate (fn.n - args.length) .unk, h := H } { tmps := cargs ++ Array.replicate (mf.ntmps - cargs.size) undef, defers := [] } :=
    ⟨Evo.refl hr, by rw [h4']; exact init_slots hl hv _, rfl, rfl⟩
  have key : ∀ (st : St) (e : Ex), (e = .normal ∨ e = .ret) → (match evR st fn.res with
      | some vs =>
        let r := oneOf vs
        let ids := liveIds st.m st.h [r]
        some (r.ren (posOf ids), renH ids st.h)
      | none => none) = some (r, H') → ∀ a' w' S' ρ', Inv w S ρ H w' S' ρ' st a' → bodyPost P mf (fun e w' => ∃ cv S' ρ', e = .returned cv ∧ Evo w S ρ H w' S' ρ' H' ∧ VR w' S' ρ' r cv) e.to a' w' := by
    intro st e hex hm a' w' S' ρ' hi
    split at hm
    case h_2 => simp at hm
    rename_i vs hvs
    simp only [Option.some.injEq, Prod.mk.injEq] at hm
    obtain ⟨rfl, rfl⟩ := hm
    obtain ⟨us, q1, q2, q3⟩ := results_sound hi.evo.rel hi.slots mf.results.toList fn.res vs h6' hvs
    have hb : a'.defers = [] ∧ ∃ v, (results mf a'.tmps).run P w' = .ok v w' ∧ ∃ cv S1 ρ1, Ending.returned v = .returned cv ∧ Evo w S ρ H w' S1 ρ1 (renH (liveIds st.m st.h [oneOf vs]) st.h) ∧
        VR w' S1 ρ1 ((oneOf vs).ren (posOf (liveIds st.m st.h [oneOf vs]))) cv := by
      have hmm : st.m ≤ st.h.length := by rw [hi.m]; exact hi.evo.len
      obtain ⟨l1, l2, l3⟩ := liveIds_spec hmm [oneOf vs]
      refine ⟨hi.defers, _, ?_, _, S', _, rfl, hi.evo.clean l1 (by rw [← hi.m]; exact l2) (fun i h => l3 i (by rw [hi.m]; exact h)), (oneOf_sound q2 q3).ren fun i j p hp hq => comp_pos hp hq⟩
      rw [results_eq, Array.mapM_eq_mapM_toList]
      simp only [Sem.run_bind, Sem.run_map, q1, Result.andThen_ok, Sem.run_pure]
    rcases hex with rfl | rfl <;> exact hb
  unfold evF at he
  split at he
  · rename_i st h7
    exact evC_sound hmx hcall hlp fn.body c _ _ _ hk h5' h7 w S ρ _ hinv _ fun a' w' S' ρ' hi => key st .normal (.inl rfl) he a' w' S' ρ' hi
  · rename_i st h7
    exact evC_sound hmx hcall hlp fn.body c _ _ _ hk h5' h7 w S ρ _ hinv _ fun a' w' S' ρ' hi => key st .ret (.inr rfl) he a' w' S' ρ' hi
  · simp at he

theorem loop_step (hmx : P.follows .mixedOrders = true) (hcall : CallSnd P call) (hlp : LoopSnd P lp) : LoopSnd P fun L c st => match evC call lp c (clean L st) with
    | some (.normal, st') => lp L c st'
    | r => r := by
  intro L c' c st e st' hk hc he w0 S0 ρ0 H0 w S ρ a hi R hR
  obtain ⟨ρ', hi'⟩ := hi.clean L
  refine LW.intro ?_
  simp only at he
  split at he
  · rename_i st1 h1
    refine evC_sound hmx hcall hlp c' c _ _ _ hk hc h1 w S ρ' a hi' _ fun a' w' S' ρ'' hi'' => ?_
    exact hlp L c' c st1 e st' hk hc he w0 S0 ρ0 H0 w' S' ρ'' a' hi'' R hR
  · rename_i hne
    refine evC_sound hmx hcall hlp c' c _ _ _ hk hc he w S ρ' a hi' _ fun a' w' S' ρ'' hi'' => ?_
    cases e with
    | normal => exact absurd he (hne _)
    | exit id => exact hR a' w' S' ρ'' hi''
    | ret => exact hR a' w' S' ρ'' hi''

/-- The texts of the functions are the program's. -/
structure Tab (P : Program) (ir : IR) : Prop where
  mixed : P.follows .mixedOrders = true
  fns : ∀ f fn, ir.fn f = some fn → cF P f = some fn.strip ∧ fn.body.okD = true
  nat : CallSnd P ir.nat

theorem fuel_sound {ir : IR} (ht : Tab P ir) : ∀ n, CallSnd P (callN ir n) ∧ LoopSnd P (loopN ir n)
  | 0 => ⟨fun f args H r H' h => by simp [callN] at h, fun L c' c st e st' _ _ h => by simp [loopN] at h⟩
  | n + 1 => by
    obtain ⟨h1, h2⟩ := fuel_sound ht n
    refine ⟨fun f args H r H' h => ?_, fun L c' c st e st' hk hc h => ?_⟩
    · rw [callN] at h
      split at h
      case h_2 => exact ht.nat f args H r H' h
      rename_i fn hf
      obtain ⟨h3, h4⟩ := ht.fns f fn hf
      exact evF_sound ht.mixed h1 h2 h3 h4 h
    · rw [loopN] at h
      exact loop_step ht.mixed h1 h2 L c' c st e st' hk hc h
end
end Go.Ev
