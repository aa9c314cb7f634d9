/- Rows of an own slice written anew; clear, copy. Own work. -/
import Derived.Test.YtbcpffhialoliaaEvStore
import Derived.Test.YtbcpffhialoliaaEvOps
import Derived.Lib.SliceRun
namespace Go.Ev
open Go
set_option linter.unusedVariables false
set_option linter.unusedSimpArgs false
section
variable {w : World} {S : Sta} {ρ : Pos} {H : Heap} {P : Program}
theorem row3_len (xs ys : List (List D)) (o : Nat) (h : o + ys.length ≤ xs.length) : (xs.take o ++ ys ++ xs.drop (o + ys.length)).length = xs.length := by
  simp only [List.length_append, List.length_take, List.length_drop]; omega
theorem row3_getD (xs ys : List (List D)) (o q : Nat) (h : o + ys.length ≤ xs.length) : (xs.take o ++ ys ++ xs.drop (o + ys.length)).getD q [] = if o ≤ q ∧ q < o + ys.length then ys.getD (q - o) [] else xs.getD q [] := by
  have hl : (xs.take o).length = o := by rw [List.length_take]; omega
  rw [getD_app3 _ _ _ 0, hl]
  by_cases h1 : q < o
  · rw [if_pos h1, if_neg (by omega)]
    simp only [List.getD_eq_getElem?_getD, List.getElem?_take, h1, if_true]
  · rw [if_neg h1]
    by_cases h2 : q < o + ys.length
    · rw [if_pos h2, if_pos ⟨by omega, h2⟩]
    · rw [if_neg h2, if_neg (by omega)]
      simp only [List.getD_eq_getElem?_getD, List.getElem?_drop]
      rw [show o + ys.length + (q - o - ys.length) = q from by omega]
theorem evo_rows (hr : Rel w S ρ H) {i z o g β : Nat} {xs ys : List (List D)} (hb : H.getD i .dead = .arr z xs) (hp : ρ i = some (g, β)) (hf : o + ys.length ≤ xs.length) {vs : List Value} (hvl : vs.length = ys.length * z)
    (hone : ∀ v ∈ vs, one v = true) (hw : ∀ k, k < ys.length → (ys.getD k []).length = z) (hdr : ∀ k, k < ys.length → ∀ j, j < z → DR w S ((ys.getD k []).getD j .nilp) (vs.getD (k * z + j) undef)) :
    ∃ c e fz, w.heap[g]? = some (.cells c e fz) ∧ Thaw fz c.size ∧ β + o * z + vs.length ≤ c.size ∧ RowR w S c β z xs ∧ ¬ S g ∧
      Evo w S ρ H (setBlk w g (.cells (putV c (β + o * z) vs) e fz)) S ρ (H.set i (.arr z (xs.take o ++ ys ++ xs.drop (o + ys.length)))) := by
  have hbi := hr.blk i
  rw [hb] at hbi
  obtain ⟨h3, c, e, fz, ⟨h2, hfz⟩, hrow⟩ := hbi.2 g β hp
  have hfits := hrow.fits
  have hmul : (o + ys.length) * z ≤ xs.length * z := Nat.mul_le_mul_right z hf
  rw [Nat.add_mul] at hmul
  have hle : β + o * z + vs.length ≤ c.size := by rw [hvl]; omega
  refine ⟨c, e, fz, h2, hfz, hle, hrow, h3, ?_⟩
  refine evo_write hr (by rw [hb]; rfl) hp h2 (fun c' e' f' he => ?_) h3 rfl (fun w' hw' hoth hown hbs => ?_)
  · injection he with he1 he2 he3; subst he1; subst he2; exact ⟨_, _, rfl, putV_size ..⟩
  · have hst : ∀ k, S k → w'.heap[k]? = w.heap[k]? := fun k hk => hoth k (fun e => h3 (e ▸ hk))
    refine ⟨fun hn => by rw [hn] at hp; simp at hp, fun g' β' hp' => ?_⟩
    rw [hp] at hp'; simp only [Option.some.injEq, Prod.mk.injEq] at hp'; obtain ⟨rfl, rfl⟩ := hp'
    refine ⟨h3, _, e, fz, ⟨hown, by rw [putV_size]; exact hfz⟩, ⟨by rw [putV_size, row3_len _ _ _ hf]; exact hfits, fun q hq => ?_, fun q hq => ?_, fun q hq j hj => ?_⟩⟩
    · rw [row3_len _ _ _ hf] at hq
      rw [row3_getD _ _ _ _ hf]
      split
      · exact hw _ (by omega)
      · exact hrow.wide q hq
    · rw [row3_len _ _ _ hf] at hq
      rw [putV_getD _ _ _ hle]
      split
      · rename_i hin
        have hlt : β + q - (β + o * z) < vs.length := by omega
        rw [List.getD_eq_getElem?_getD, List.getElem?_eq_getElem hlt, Option.getD_some]
        exact hone _ (List.getElem_mem hlt)
      · exact hrow.ones q hq
    · rw [row3_len _ _ _ hf] at hq
      rw [row3_getD _ _ _ _ hf, putV_getD _ _ _ hle]
      by_cases hin : o ≤ q ∧ q < o + ys.length
      · obtain ⟨t, rfl⟩ : ∃ t, q = o + t := ⟨q - o, by omega⟩
        have ht : t < ys.length := by omega
        have hm : t * z + z ≤ ys.length * z := by
          have : (t + 1) * z ≤ ys.length * z := Nat.mul_le_mul_right z (by omega)
          rw [Nat.add_mul, Nat.one_mul] at this; exact this
        have e1 : (o + t) * z = o * z + t * z := Nat.add_mul ..
        rw [if_pos hin, if_pos (by rw [hvl, e1]; omega), show o + t - o = t from by omega, show β + ((o + t) * z + j) - (β + o * z) = t * z + j from by rw [e1]; omega]
        exact (hdr t ht j hj).mono (fun _ h => h) hst
      · rw [if_neg hin]
        have hne : ¬ (β + o * z ≤ β + (q * z + j) ∧ β + (q * z + j) < β + o * z + vs.length) := by
          rw [hvl]
          by_cases h1 : q < o
          · have : (q + 1) * z ≤ o * z := Nat.mul_le_mul_right z h1
            rw [Nat.add_mul, Nat.one_mul] at this; omega
          · have h2 : o + ys.length ≤ q := by omega
            have : (o + ys.length) * z ≤ q * z := Nat.mul_le_mul_right z h2
            rw [Nat.add_mul] at this; omega
        rw [if_neg hne]
        exact (hrow.cell q hq j hj).mono (fun _ h => h) hst
theorem cell_setBlk_len {g : Nat} {c : Array Value} {e : TypeId} {fz : Nat × Nat} (h : w.heap[g]? = some (.cells c e fz)) (o : Nat) (ho : o < c.size) : (w.cell? ⟨g, o, none⟩) = some (c.getD o undef) := cell_at h ho
/-- A row of zeros, again and again. -/
theorem zeroCells_getD (zs : Array Value) (n k j : Nat) (hk : k < n) (hj : j < zs.size) : (Builtin.zeroCells zs n).toList.getD (k * zs.size + j) undef = zs.getD j undef := by
  have h1 : k * zs.size + j < n * zs.size := by
    have : (k + 1) * zs.size ≤ n * zs.size := Nat.mul_le_mul_right _ hk
    rw [Nat.add_mul, Nat.one_mul] at this; omega
  have h2 : (k * zs.size + j) % zs.size = j := by rw [Nat.mul_comm, Nat.mul_add_mod, Nat.mod_eq_of_lt hj]
  rw [toList_getD]
  simp only [Builtin.zeroCells, Array.getD_eq_getD_getElem?]
  rw [Array.getElem?_map, Array.getElem?_range, if_pos h1]
  simp only [Option.map_some, Option.getD_some, h2]
  simp [hj]
theorem zeroCells_len (zs : Array Value) (n : Nat) : (Builtin.zeroCells zs n).toList.length = n * zs.size := by simp [Builtin.zeroCells]
theorem zeroCells_mem {zs : Array Value} {n : Nat} {v : Value} (h : v ∈ (Builtin.zeroCells zs n).toList) : ∃ j, j < zs.size ∧ v = zs.getD j undef := by
  obtain ⟨q, hq, rfl⟩ := List.getElem_of_mem h
  rw [zeroCells_len] at hq
  have hz : 0 < zs.size := by
    rcases Nat.eq_zero_or_pos zs.size with h0 | h0
    · rw [h0] at hq; simp at hq
    · exact h0
  have hm := Nat.mod_lt q hz
  refine ⟨q % zs.size, hm, ?_⟩
  have hk : q / zs.size < n := Nat.div_lt_of_lt_mul (by rw [Nat.mul_comm]; exact hq)
  have := zeroCells_getD zs n (q / zs.size) (q % zs.size) hk hm
  have e : q / zs.size * zs.size + q % zs.size = q := by rw [Nat.mul_comm]; exact Nat.div_add_mod q zs.size
  rw [e] at this
  rw [← this, List.getD_eq_getElem?_getD, List.getElem?_eq_getElem (by rw [zeroCells_len]; exact hq), Option.getD_some]
theorem set_self {i : Nat} {b : Blk} (h : H.getD i .dead = b) (hb : b ≠ .dead) : H.set i b = H := by
  have hi : i < H.length := by
    rcases Nat.lt_or_ge i H.length with h1 | h1
    · exact h1
    · rw [getD_over _ _ _ h1] at h; exact absurd h.symm hb
  apply List.ext_getElem
  · simp
  · intro j h1 h2
    rw [List.getElem_set]
    split
    · rename_i e; subst e
      rw [← h, List.getD_eq_getElem?_getD, List.getElem?_eq_getElem hi, Option.getD_some]
    · rfl
/-- clear: the rows hold the element type's zero value. -/
theorem freeze_eq {g m : Nat} {c : Array Value} {e : TypeId} {fz : Nat × Nat} (hg : w.heap[g]? = some (.cells c e fz)) :
    w.freeze ⟨g, m, none⟩ 1 = setBlk w g (.cells c e (if fz.1 == fz.2 then (m, m + 1) else (min fz.1 m, max fz.2 (m + 1)))) := by
  obtain ⟨hlt, hge⟩ := Array.getElem?_eq_some_iff.1 hg
  unfold World.freeze setBlk
  rw [if_neg (by decide)]
  congr 1
  apply Array.ext_getElem?
  intro k
  rw [Array.getElem?_modify, Array.getElem?_setIfInBounds]
  by_cases hk : g = k
  · subst hk
    simp [hge, hlt]
  · simp [hk]
theorem thaw_mark {fz : Nat × Nat} {n : Nat} (h : Thaw fz n) : Thaw (if fz.1 == fz.2 then (n, n + 1) else (min fz.1 n, max fz.2 (n + 1))) n := by
  split
  · exact ⟨Nat.le_succ _, fun o ho => by simp; omega⟩
  · rename_i hne
    have hne' : fz.1 ≠ fz.2 := by simpa using hne
    have hlt : fz.1 < fz.2 := Nat.lt_of_le_of_ne h.1 hne'
    have hn : n ≤ fz.1 := by
      rcases Nat.lt_or_ge fz.1 n with h1 | h1
      · exact absurd ⟨Nat.le_refl _, hlt⟩ (h.2 _ h1)
      · exact h1
    refine ⟨by simp only; omega, fun o ho => by simp only; omega⟩
theorem gives_cvl (hr : Rel w S ρ H) {t e : TypeId} (ht : P.underlying t = some (.slice e)) (hu : P.underlying e = some (.int .u8)) {x r : AV} {v : Value} {H' : Heap} (hv : VR w S ρ x v) (he : cvlA H x = some (r, H')) :
    Gives P w S ρ H r H' (convert t t v) := by
  unfold cvlA at he
  split at he
  case h_2 => simp at he
  rename_i i o n k
  generalize hb : H.getD i .dead = blk at he
  cases blk with
  | arr z xs =>
    simp only [cvlB] at he
    split at he
    case isFalse => simp at he
    rename_i hn0
    simp only [Option.some.injEq, Prod.mk.injEq] at he
    obtain ⟨rfl, rfl⟩ := he
    have hv0 := hv
    cases hv with
    | own _ _ _ _ _ a cap hn hk hp =>
      obtain ⟨g, β, hp1, rfl, hp3⟩ := hp (by omega)
      have hbi := hr.blk i
      rw [hb] at hbi
      obtain ⟨h3, c, et, fz, ⟨h2, hfz⟩, hrow⟩ := hbi.2 g β hp1
      have hsh : w.shape? g = some (et, c.size) := by simp only [World.shape?, h2]
      have hrun : (convert t t (.slice (some ⟨g, β + o * 1, none⟩) n cap)).run P w = .ok (.slice (some ⟨g, β + o * 1, none⟩) n cap) (w.freeze ⟨g, c.size, none⟩ 1) := by
        simp [convert, run_underlying ht, run_underlying hu, markStringish, hsh]
      rw [freeze_eq h2] at hrun
      have hev : Evo w S ρ H (setBlk w g (.cells c et (if fz.1 == fz.2 then (c.size, c.size + 1) else (min fz.1 c.size, max fz.2 (c.size + 1))))) S ρ (H.set i (.arr z xs)) :=
        evo_write hr (by rw [hb]; rfl) hp1 h2 (fun c' e' f' he => by injection he with he1 he2 he3; subst he1; subst he2; exact ⟨_, _, rfl, rfl⟩) h3 rfl (fun w' hw' hoth hown hbs => by
          have hst : ∀ k, S k → w'.heap[k]? = w.heap[k]? := fun k hk => hoth k (fun e => h3 (e ▸ hk))
          refine ⟨fun hn => by rw [hn] at hp1; simp at hp1, fun g' β' hp' => ?_⟩
          rw [hp1] at hp'; simp only [Option.some.injEq, Prod.mk.injEq] at hp'; obtain ⟨rfl, rfl⟩ := hp'
          exact ⟨h3, _, et, _, ⟨hown, thaw_mark hfz⟩, ⟨hrow.fits, hrow.wide, hrow.ones, fun q hq j hj => (hrow.cell q hq j hj).mono (fun _ h => h) hst⟩⟩)
      rw [set_self hb (fun h => by cases h)] at hev
      exact ⟨_, _, S, ρ, hrun, hev, hv0.mono (fun _ h => h) (fun k hk => setBlk_other (g := g) (fun e => h3 (by rw [← e]; exact hk))) (fun _ _ h => h) (fun k => by
        unfold bsz
        by_cases hkg : k = g
        · subst hkg; rw [setBlk_same h2, h2]; exact Nat.le_refl _
        · rw [setBlk_other hkg]; exact Nat.le_refl _)⟩
  | _ => simp [cvlB] at he
/-- Fewer rows of a block. -/
theorem lt_of_arr {H : Heap} {i z : Nat} {xs : List (List D)} (hb : H.getD i .dead = .arr z xs) : i < H.length := by
  by_cases h : i < H.length
  · exact h
  · rw [getD_over _ _ _ (by omega)] at hb; cases hb
theorem rowR_take {c : Array Value} {β z : Nat} {xs : List (List D)} (h : RowR w S c β z xs) (m : Nat) : RowR w S c β z (xs.take m) := by
  have hl : (xs.take m).length ≤ xs.length := by rw [List.length_take]; omega
  have hg : ∀ q, q < (xs.take m).length → (xs.take m).getD q [] = xs.getD q [] := by
    intro q hq
    rw [List.length_take] at hq
    simp [List.getD_eq_getElem?_getD, List.getElem?_take, show q < m by omega]
  have hm : (xs.take m).length * z ≤ xs.length * z := Nat.mul_le_mul_right z hl
  exact ⟨by have := h.fits; omega, fun q hq => by rw [hg q hq]; exact h.wide q (by omega), fun q hq => h.ones q (by omega), fun q hq j hj => by rw [hg q hq]; exact h.cell q (by omega) j hj⟩
theorem evo_cut (hr : Rel w S ρ H) {i z : Nat} {xs : List (List D)} (hb : H.getD i .dead = .arr z xs) (m : Nat) : Evo w S ρ H w S ρ (H.set i (.arr z (xs.take m))) := by
  have hl : i < H.length := by
    by_cases h : i < H.length
    · exact h
    · rw [getD_over _ _ _ (by omega)] at hb; cases hb
  have hget : ∀ j, (H.set i (.arr z (xs.take m))).getD j .dead = if i = j then Blk.arr z (xs.take m) else H.getD j .dead := by
    intro j; rw [getD_set_eq]
    by_cases h : i = j
    · subst h; simp [hl]
    · simp [h]
  have hmut : ∀ j, ((H.set i (.arr z (xs.take m))).getD j .dead).mut = (H.getD j .dead).mut := by
    intro j; rw [hget]; split
    · rename_i e; subst e; rw [hb]; rfl
    · rfl
  refine ⟨⟨?_, ?_, ?_, hr.rlt, hr.slt, hr.gl⟩, by simp, fun _ _ => rfl, ?_, fun _ h => h, fun _ h => .inl h, fun _ _ _ => rfl, ?_, fun _ c _ f h => ⟨c, f, h, rfl⟩, Nat.le_refl _, rfl, rfl, rfl, fun j cs _ hc => by rw [hget, if_neg (fun e => by subst e; rw [hb] at hc; cases hc)]; exact hc⟩
  · intro j; rw [hget]; split
    · rename_i e; subst e
      have hbi := hr.blk i
      rw [hb] at hbi
      refine ⟨fun h => by rw [hbi.1 h]; simp, fun g β h => ?_⟩
      obtain ⟨h1, c, e, f, h2, hrow⟩ := hbi.2 g β h
      exact ⟨h1, c, e, f, h2, rowR_take hrow m⟩
    · exact hr.blk j
  · intro j k g β γ hj hk h1 h2
    rw [hmut] at hj hk
    exact hr.inj j k g β γ hj hk h1 h2
  · intro j hj; exact hr.lim j (by simpa using hj)
  · intro j hj hm; rw [hmut]; exact hm
  · rintro g ⟨j, β, hj, h⟩
    rw [hmut] at hj
    exact .inl ⟨j, β, hj, h⟩
theorem gives_clr (hr : Rel w S ρ H) {ts : Array TypeId} {t e ty : TypeId} {zs : List D} (h0 : ts[0]? = some t) (hu : P.underlying t = some (.slice e)) (hz : zerosOf P e = some zs)
    {x : AV} {vx : Value} (hvx : VR w S ρ x vx) {r : AV} {H' : Heap} (he : bltA (.clr zs) [x] H = some (r, H')) : Gives P w S ρ H r H' (Builtin.clear_ ts ty #[vx]) := by
  unfold bltA at he
  split at he
  case h_2 => rename_i hh; cases hh
  case h_3 => simp at he
  rename_i zs' i z o n k hq1 hq2
  injection hq1 with hq1; subst hq1
  simp only [List.cons.injEq, and_true] at hq2
  subst hq2
  split at he
  case h_2 => simp at he
  rename_i z' xs hb
  split at he
  case isFalse => simp at he
  rename_i hc
  obtain ⟨rfl, hzl, hf⟩ := hc
  simp only [Option.some.injEq, Prod.mk.injEq] at he
  obtain ⟨rfl, rfl⟩ := he
  cases hvx with
  | own _ _ _ _ _ a cap hn hk hp =>
    have hne : Blk.arr z' xs ≠ .dead := fun h => by cases h
    by_cases hn0 : n = 0
    · subst hn0
      have e1 : xs.take o = xs := List.take_of_length_le (by omega)
      rw [e1, set_self hb hne]
      refine gives_same hr (cv := .tuple #[]) ?_ (.tup [] #[] rfl fun i hi => by simp at hi)
      cases a <;> simp [Builtin.clear_, h0, run_underlying hu]
    · obtain ⟨g, β, hp1, rfl, hp3⟩ := hp (by omega)
      obtain ⟨i0, v, hi0, hz0, hzl2, hall⟩ := zerosOf_spec hz
      obtain ⟨c1, c2, c3⟩ := cells_of_allO (w := w) (S := S) hall
      have hys : (List.replicate n zs).length = n := List.length_replicate
      have hlen := zeroCells_len v.cells n
      have hvz : v.cells.size = z' := by rw [c1, hzl]
      have hrg : ∀ k, k < n → (List.replicate n zs).getD k [] = zs := fun k hk => by simp [List.getD_eq_getElem?_getD, hk]
      obtain ⟨c, e', fz, w1, w2, w3, _, _, ev⟩ := evo_rows (o := o) (ys := List.replicate n zs) hr hb hp1 (by rw [hys]; omega) (vs := (Builtin.zeroCells v.cells n).toList) (by rw [hlen, hvz, hys])
        (fun u hu => by obtain ⟨j, hj, rfl⟩ := zeroCells_mem hu; exact c2 j (by omega))
        (fun k hk => by rw [hys] at hk; rw [hrg k hk]; exact hzl)
        (fun k hk j hj => by
          rw [hys] at hk
          rw [hrg k hk]
          have := zeroCells_getD v.cells n k j hk (by omega)
          rw [hvz] at this
          rw [this]
          exact c3 j (by omega))
      rw [hys] at ev
      have hil := lt_of_arr hb
      have et : (xs.take o ++ List.replicate n zs ++ xs.drop (o + n)).take o = xs.take o := by
        rw [List.append_assoc, List.take_append_of_le_length (by rw [List.length_take]; omega), List.take_take, Nat.min_self]
      have hg2 := (getD_set_eq _ i i (Blk.arr z' (xs.take o ++ List.replicate n zs ++ xs.drop (o + n))) .dead).trans (if_pos ⟨rfl, hil⟩)
      have ev2 := evo_cut ev.rel hg2 o
      rw [List.set_set, et] at ev2
      have ev3 := ev.trans ev2
      refine ⟨.tuple #[], _, S, ρ, ?_, ev3, .tup [] #[] rfl fun i hi => by simp at hi⟩
      have hst := run_storeCells (P := P) (Builtin.zeroCells v.cells n).toList w g (β + o * z') 0 c e' fz w1 w2 (by simpa using w3) (fun u hu => by obtain ⟨j, hj, rfl⟩ := zeroCells_mem hu; exact c2 j (by omega))
      simp only [Nat.add_zero] at hst
      have hzv := run_zeroValue (P := P) (w := w) hi0 hz0
      obtain ⟨m, rfl⟩ : ∃ m, n = m + 1 := ⟨n - 1, by omega⟩
      simp [Builtin.clear_, h0, run_underlying hu, hzv, hst]
end
end Go.Ev
