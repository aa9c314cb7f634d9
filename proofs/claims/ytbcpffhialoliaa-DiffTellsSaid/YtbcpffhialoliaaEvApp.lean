/- Appending, as the evaluator has it. Own work. -/
import Derived.Test.YtbcpffhialoliaaEvSlc
namespace Go.Ev
open Go
set_option linter.unusedVariables false
set_option linter.unusedSimpArgs false
section
variable {w : World} {S : Sta} {ρ : Pos} {H : Heap} {P : Program}

theorem getD_app {α : Type} (a b : List α) (j : Nat) (d : α) : (a ++ b).getD j d = if j < a.length then a.getD j d else b.getD (j - a.length) d := by
  simp only [List.getD_eq_getElem?_getD]
  by_cases hk : j < a.length
  · rw [if_pos hk, List.getElem?_append_left hk]
  · rw [if_neg hk, List.getElem?_append_right (by omega)]

/-- A block that nobody asks for any more. -/
theorem evo_kill (hr : Rel w S ρ H) (i : Nat) (hnd : ∀ cs, H.getD i .dead ≠ .dbox cs) : Evo w S ρ H w S ρ (H.set i .dead) := by
  have hget : ∀ j, (H.set i .dead).getD j .dead = if i = j then Blk.dead else H.getD j .dead := by
    intro j; rw [getD_set_eq]
    by_cases h : i = j
    · subst h
      by_cases hl : i < H.length
      · simp [hl]
      · rw [if_neg (by omega), if_pos rfl, getD_over _ _ _ (by omega)]
    · simp [h]
  refine ⟨⟨?_, ?_, ?_, hr.rlt, hr.slt, hr.gl⟩, by simp, fun _ _ => rfl, ?_, fun _ h => h, fun _ h => .inl h, fun _ _ _ => rfl, ?_, fun _ c _ f h => ⟨c, f, h, rfl⟩, Nat.le_refl _, rfl, rfl, rfl, fun j cs _ hc => by rw [hget, if_neg (fun e => by subst e; exact hnd cs hc)]; exact hc⟩
  · intro j; rw [hget]; split
    · trivial
    · exact hr.blk j
  · intro j k g β γ hj hk h1 h2
    rw [hget] at hj hk
    split at hj
    · simp [Blk.mut] at hj
    · split at hk
      · simp [Blk.mut] at hk
      · exact hr.inj j k g β γ hj hk h1 h2
  · intro j hj; exact hr.lim j (by simpa using hj)
  · intro j hj hm; rw [hget]; split
    · rfl
    · exact hm
  · rintro g ⟨j, β, hj, h⟩
    rw [hget] at hj
    split at hj
    · simp [Blk.mut] at hj
    · exact .inl ⟨j, β, hj, h⟩

/-- An own slice that holds nothing and lies nowhere. -/
theorem evo_nil (hr : Rel w S ρ H) (z : Nat) : Evo w S ρ H w S ρ (H ++ [.arr z []]) := by
  have hn : ρ H.length = none := hr.lim _ (Nat.le_refl _)
  refine ⟨⟨?_, ?_, ?_, hr.rlt, hr.slt, hr.gl⟩, by simp, fun _ _ => rfl, ?_, fun _ h => h, fun _ h => .inl h, fun _ _ _ => rfl, ?_, fun _ c _ f h => ⟨c, f, h, rfl⟩, Nat.le_refl _, rfl, rfl, rfl, fun j cs _ hc => by have := lt_of_dbox hc; rw [getD_push, if_neg (by omega)]; exact hc⟩
  · intro j; rw [getD_push]
    split
    · rename_i e; subst e
      exact ⟨fun _ => rfl, fun g β h => by rw [hn] at h; simp at h⟩
    · exact hr.blk j
  · intro j k g β γ hj hk h1 h2
    rw [getD_push] at hj hk
    split at hj
    · rename_i e; subst e; rw [hn] at h1; simp at h1
    · split at hk
      · rename_i e; subst e; rw [hn] at h2; simp at h2
      · exact hr.inj j k g β γ hj hk h1 h2
  · intro j hj; exact hr.lim j (by simp at hj; omega)
  · intro j hj hm; rw [getD_push, if_neg (by omega)]; exact hm
  · rintro g ⟨j, β, hj, h⟩
    rw [getD_push] at hj
    split at hj
    · rename_i e; subst e; rw [hn] at h; simp at h
    · exact .inl ⟨j, β, hj, h⟩

theorem rowR_of_cells {c : Array Value} {z cap n : Nat} {ys : List (List D)} {cs : List Value} (h : CellsR w S z ys cs.toArray) (hs : c.size = cap * z) (hn : ys.length ≤ cap)
    (hg : ∀ k, k < ys.length * z → c.getD k undef = cs.getD k undef) : RowR w S c 0 z ys := by
  have hm : ys.length * z ≤ cap * z := Nat.mul_le_mul_right z hn
  refine ⟨by omega, h.wide, fun k hk => ?_, fun k hk j hj => ?_⟩
  · rw [Nat.zero_add, hg k hk, ← getD_arr cs]; exact h.ones k hk
  · have := mul_lt (c := j) (m := 1) (z := z) hk (by omega)
    rw [Nat.zero_add, hg _ (by omega), ← getD_arr cs]; exact h.cell k hk j hj

/-- A new row for an own slice. -/
theorem evo_row (hr : Rel w S ρ H) (e : TypeId) {c : Array Value} {z : Nat} {ys : List (List D)} (hrow : RowR w S c 0 z ys) {fz : Nat × Nat} (hfz : Thaw fz c.size) :
    Evo w S ρ H (w.alloc (.cells c e fz)) S (posNew ρ H.length w.heap.size 0) (H ++ [.arr z ys]) := by
  refine evo_new hr _ _ fun a1 a2 a3 a4 a5 => ⟨fun h => by rw [a2] at h; simp at h, fun g β h => ?_⟩
  rw [a2] at h; simp only [Option.some.injEq, Prod.mk.injEq] at h; obtain ⟨rfl, rfl⟩ := h
  exact ⟨a3, c, e, fz, ⟨a1, hfz⟩, hrow.fits, hrow.wide, hrow.ones, fun k hk j hj => a4 _ _ (hrow.cell k hk j hj)⟩

theorem own_new {c : Array Value} {e : TypeId} {fz : Nat × Nat} {z n cap : Nat} (hs : c.size = cap * z) (hn : n ≤ cap) (kk : Bool) (hk : kk = true → cap = n) :
    VR (w.alloc (.cells c e fz)) S (posNew ρ H.length w.heap.size 0) (.own H.length z 0 n kk) (.slice (some ⟨w.heap.size, 0, none⟩) n cap) :=
  .own _ _ _ _ _ _ _ hn hk fun _ => ⟨w.heap.size, 0, posNew_same .., by simp, by
    have hb : bsz (w.alloc (.cells c e fz)) w.heap.size = c.size := by unfold bsz; rw [alloc_new]
    rw [hb, hs]; simp⟩

theorem drew_size : w.drew.heap.size = w.heap.size := rfl

/-- Nothing appended to nothing; what fits, appended. -/
theorem run_append_fits {ts : Array TypeId} {t0 t1 t e : TypeId} {d1 : TypeDesc} {ti : TypeInfo} (h0 : ts[0]? = some t0) (h1 : ts[1]? = some t1) (hu : P.underlying t0 = some (.slice e))
    (hu1 : P.underlying t1 = some d1) (hn : cO.noInt d1 = true) (hi : P.info? e = some ti) {a : Option Addr} {n cap : Nat} {y : Value} {m : Nat} {new : List Value} {w' : World}
    (hy : (Builtin.lenOf y).run P w = .ok m w) (hnew : (Builtin.firstCells ti.size m y).run P w = .ok new.toArray w) (hfit : n + m ≤ cap)
    (hst : ∀ b, a = some b → (storeCells (b.add (n * ti.size)) new).run P w = .ok () w') (hno : a = none → w' = w) :
    (Builtin.append_ ts t #[.slice a n cap, y]).run P w = .ok (.slice a (n + m) cap) w' := by
  cases a with
  | none =>
    rw [hno rfl]
    cases d1 <;> first
      | (simp [cO.noInt] at hn; done)
      | (simp only [Builtin.append_, h0, h1, List.getElem?_toArray, List.getElem?_cons_zero, List.getElem?_cons_succ, Sem.run_bind, run_underlying hu, run_underlying hu1, Result.andThen_ok, Sem.run_pure, run_sizeOf hi, Bool.false_eq_true, if_false, hy, hfit,
          Bool.not_false, if_true, hnew])
  | some b =>
    have := hst b rfl
    cases d1 <;> first
      | (simp [cO.noInt] at hn; done)
      | (simp only [Builtin.append_, h0, h1, List.getElem?_toArray, List.getElem?_cons_zero, List.getElem?_cons_succ, Sem.run_bind, run_underlying hu, run_underlying hu1, Result.andThen_ok, Sem.run_pure, run_sizeOf hi, Bool.false_eq_true, if_false, hy, hfit,
          Bool.not_false, if_true, hnew, List.toList_toArray, this])

theorem gives_app (hr : Rel w S ρ H) {ts : Array TypeId} {t0 t1 t e : TypeId} {d1 : TypeDesc} {ti : TypeInfo} {zs : List D} (h0 : ts[0]? = some t0) (h1 : ts[1]? = some t1) (hu : P.underlying t0 = some (.slice e))
    (hu1 : P.underlying t1 = some d1) (hn : cO.noInt d1 = true) (hi : P.info? e = some ti) (hz : zerosOf P e = some zs) (hb : 0 < ti.bytes) {x y r : AV} {vx vy : Value} {ys : List (List D)} {H' : Heap}
    (hx : VR w S ρ x vx) (hy : VR w S ρ y vy) (ht : tailA H ti.size y = some ys) (h : appA H ti.size ti.bytes x ys = some (r, H')) :
    Gives P w S ρ H r H' (Builtin.append_ ts t #[vx, vy]) := by
  obtain ⟨hlen, new, hnew, hcn⟩ := tailA_sound (P := P) hr hy ht
  have ed := evo_draw hr
  have hnl : new.length = ys.length * ti.size := by have := hcn.size; simpa using this
  obtain ⟨_, new', hnew', hcn'⟩ := tailA_sound (P := P) (w := w.drew) ed.rel (ed.vr hr hy) ht
  have hnl' : new'.length = ys.length * ti.size := by have := hcn'.size; simpa using this
  -- a new row
  have grows : ∀ (a : Option Addr) (n cap : Nat) (xs : List (List D)) (old : List Value) (H1 : Heap), Evo w S ρ H w S ρ H1 → cap < n + ys.length → (n + ys.length) * ti.bytes ≤ 70368744177664 →
      (Builtin.firstCells ti.size n (.slice a n cap)).run P w.drew = .ok old.toArray w.drew → CellsR w.drew S ti.size xs old.toArray → xs.length = n →
      Gives P w S ρ H (.own H1.length ti.size 0 (n + ys.length) false) (H1 ++ [.arr ti.size (xs ++ ys)]) (Builtin.append_ ts t #[.slice a n cap, vy]) := by
    intro a n cap xs old H1 e1 hlt hroom hold hco hxl
    have hol : old.length = n * ti.size := by have := hco.size; rw [hxl] at this; simpa using this
    obtain ⟨c, cap', hrun, hcs, hcap, hget⟩ := run_append_new (P := P) (t := t) h0 h1 hu hu1 hn hi hz hb hlen hold hnew' hlt hroom hol hnl'
    have e2 := evo_draw e1.rel
    have hrow : RowR w.drew S c 0 ti.size (xs ++ ys) := by
      refine rowR_of_cells (n := 0) (cs := old ++ new') (cap := cap') (by simpa using hco.append hcn') hcs (by simp [hxl]; exact hcap) (fun k hk => hget k (by simpa [hxl] using hk))
    have e3 := evo_row e2.rel e hrow (thaw_zero _)
    exact ⟨_, _, _, _, hrun, e1.trans (e2.trans e3), own_new hcs hcap false (by simp)⟩
  unfold appA at h
  have emp : ∀ (a : Option Addr), vx = .slice a 0 0 → (if ys.length * ti.bytes ≤ 70368744177664 then some (AV.own H.length ti.size 0 ys.length false, H ++ [.arr ti.size ys]) else none) = some (r, H') →
      Gives P w S ρ H r H' (Builtin.append_ ts t #[vx, vy]) := by
    intro a hv q
    subst hv
    split at q
    case isFalse => simp at q
    rename_i hroom
    simp only [Option.some.injEq, Prod.mk.injEq] at q
    obtain ⟨rfl, rfl⟩ := q
    by_cases hp : 0 < ys.length
    · have := grows a 0 0 [] [] H (Evo.refl hr) (by omega) (by simpa using hroom) (by
        cases a with
        | none => rfl
        | some a => simp [Builtin.firstCells, loadCells, loadCellsFrom]) ⟨by simp, fun k hk => by simp at hk, fun k hk => by simp at hk, fun k hk => by simp at hk⟩ rfl
      simpa using this
    · have hy0 : ys = [] := List.eq_nil_of_length_eq_zero (by omega)
      subst hy0
      have hnew0 : new = [] := List.eq_nil_of_length_eq_zero (by rw [hnl]; simp)
      subst hnew0
      refine ⟨.slice a 0 0, w, S, ρ, ?_, evo_nil hr ti.size, .own _ _ _ _ _ _ _ (Nat.le_refl _) (by simp) (by simp)⟩
      have hlen' : (Builtin.lenOf vy).run P w = .ok 0 w := hlen
      have hnew' : (Builtin.firstCells ti.size 0 vy).run P w = .ok #[] w := hnew
      exact run_append_fits (new := []) h0 h1 hu hu1 hn hi hlen' hnew' (Nat.le_refl _) (fun _ _ => rfl) (fun _ => rfl)
  split at h
  · cases hx.dr; exact emp none rfl h
  · cases hx.dr; exact emp _ rfl h
  · rename_i j z' o n k
    have hvx : ∃ a cap, vx = .slice a n cap := by cases hx; exact ⟨_, _, rfl⟩
    obtain ⟨a, cap, rfl⟩ := hvx
    have hx' := hx
    cases hx with
    | own _ _ _ _ _ _ _ b1 b2 b3 =>
    split at h
    · rename_i z'' xs hb'
      split at h
      case isFalse => simp at h
      rename_i hc
      obtain ⟨rfl, rfl, hon, hroom⟩ := hc
      obtain ⟨e1, e2⟩ := rowdr_sub hon
      obtain ⟨old, hold, hco⟩ := own_cells (P := P) (w := w.drew) ed.rel (.inl hb') (ed.vr hr hx') hon
      split at h
      · rename_i hk
        simp only [Option.some.injEq, Prod.mk.injEq] at h
        obtain ⟨rfl, rfl⟩ := h
        have hcap := b2 hk.1
        exact grows a n cap _ old H (Evo.refl hr) (by omega) hroom hold hco e1
      · split at h
        case isFalse => simp at h
        rename_i hnk htail
        simp only [Option.some.injEq, Prod.mk.injEq] at h
        obtain ⟨rfl, rfl⟩ := h
        have hdrop : (xs.drop o).take n = xs.drop o := by
          apply List.take_of_length_le; simp; omega
        rw [hdrop] at hco e1
        have hkill := evo_kill hr j (fun cs h => by rw [hb'] at h; simp at h)
        have hkl : (H.set j .dead).length = H.length := by simp
        by_cases hfit : n + ys.length ≤ cap
        · by_cases hc0 : 0 < cap
          · obtain ⟨g, β, p1, rfl, p3⟩ := b3 hc0
            have hbj := hr.blk j
            rw [hb'] at hbj
            obtain ⟨hns, c, te, fz, ⟨hg, hfz⟩, hrow⟩ := hbj.2 g β p1
            have hbsz : bsz w g = c.size := by simp [bsz, hg]
            rw [hbsz] at p3
            have hfits := hrow.fits
            have hmul : o * ti.size + n * ti.size = xs.length * ti.size := by rw [← Nat.add_mul, htail]
            have hmul2 : (o + cap) * ti.size = o * ti.size + cap * ti.size := Nat.add_mul ..
            have hmul3 : (n + ys.length) * ti.size ≤ cap * ti.size := Nat.mul_le_mul_right _ hfit
            have hmul4 : (n + ys.length) * ti.size = n * ti.size + ys.length * ti.size := Nat.add_mul ..
            have hst := run_storeCells (P := P) new w g (β + o * ti.size + n * ti.size) 0 c te fz hg hfz (by omega) (by
              intro v hv
              obtain ⟨q, hq, rfl⟩ := List.mem_iff_getElem.1 hv
              have := hcn.ones q (by omega)
              rw [getD_arr] at this
              simpa [List.getD_eq_getElem?_getD, List.getElem?_eq_getElem hq] using this)
            rw [Nat.add_zero] at hst
            have hev := evo_grow (γ := β + o * ti.size) (z := ti.size) (ys := xs.drop o ++ ys) (c' := putV c (β + o * ti.size + n * ti.size) new) hr (i := j) (by rw [hb']; rfl) p1 hg hfz (putV_size ..) hns (fun hmono => by
              have hxd : (xs.drop o).length = n := e1
              refine ⟨?_, fun q hq => ?_, fun q hq => ?_, fun q hq i hi' => ?_⟩
              · rw [putV_size]; simp only [List.length_append, hxd]; omega
              · simp only [List.length_append, hxd] at hq
                by_cases hqn : q < n
                · rw [getD_app, hxd, if_pos hqn, getD_drop]; exact hrow.wide _ (by omega)
                · rw [getD_app, hxd, if_neg hqn]; exact hcn.wide _ (by omega)
              · simp only [List.length_append, hxd, Nat.add_mul] at hq
                rw [putV_getD _ _ _ (by omega)]
                split
                · have := hcn.ones (q - n * ti.size) (by omega)
                  rw [getD_arr] at this
                  rwa [show β + o * ti.size + q - (β + o * ti.size + n * ti.size) = q - n * ti.size from by omega]
                · have := hrow.ones (o * ti.size + q) (by omega)
                  rwa [← Nat.add_assoc] at this
              · simp only [List.length_append, hxd] at hq
                rw [putV_getD _ _ _ (by omega)]
                by_cases hqn : q < n
                · have hm := mul_lt (c := i) (m := 1) (z := ti.size) hqn (by omega)
                  rw [if_neg (by omega)]
                  rw [getD_app, hxd, if_pos hqn, getD_drop]
                  have := hrow.cell (o + q) (by omega) i hi'
                  rw [Nat.add_mul] at this
                  rw [show β + o * ti.size + (q * ti.size + i) = β + (o * ti.size + q * ti.size + i) from by omega]
                  exact hmono _ _ this
                · have hm1 : n * ti.size ≤ q * ti.size := Nat.mul_le_mul_right _ (by omega)
                  have hm := mul_lt (k := q) (n := n + ys.length) (c := i) (m := 1) (z := ti.size) hq (by omega)
                  rw [if_pos (by omega)]
                  rw [getD_app, hxd, if_neg hqn]
                  have := hcn.cell (q - n) (by omega) i hi'
                  rw [getD_arr, Nat.sub_mul] at this
                  rw [show β + o * ti.size + (q * ti.size + i) - (β + o * ti.size + n * ti.size) = q * ti.size - n * ti.size + i from by omega]
                  exact hmono _ _ this)
            refine ⟨.slice (some ⟨g, β + o * ti.size, none⟩) (n + ys.length) cap, _, S, _, ?_, hev, ?_⟩
            · exact run_append_fits h0 h1 hu hu1 hn hi hlen hnew hfit (fun b hb => by injection hb with hb; subst hb; rw [addr_add]; exact hst) (by simp)
            · refine .own _ _ _ _ _ _ _ hfit (by simp) (fun _ => ⟨g, β + o * ti.size, posNew_same .., by simp, ?_⟩)
              have : bsz (setBlk w g (.cells (putV c (β + o * ti.size + n * ti.size) new) te fz)) g = c.size := by
                simp [bsz, setBlk_same hg, putV_size]
              rw [this, Nat.zero_add]; omega
          · have hc00 : cap = 0 := by omega
            subst hc00
            have hn0 : n = 0 := by omega
            have hy0 : ys = [] := List.eq_nil_of_length_eq_zero (by omega)
            subst hy0; subst hn0
            have hnew0 : new = [] := List.eq_nil_of_length_eq_zero (by rw [hnl]; simp)
            subst hnew0
            have hlen' : (Builtin.lenOf vy).run P w = .ok 0 w := hlen
            have hnew' : (Builtin.firstCells ti.size 0 vy).run P w = .ok #[] w := hnew
            have hd0 : xs.drop o = [] := List.eq_nil_of_length_eq_zero e1
            rw [hd0]
            refine ⟨.slice a 0 0, w, S, ρ, ?_, hkill.trans (evo_nil hkill.rel ti.size), ?_⟩
            · exact run_append_fits (new := []) h0 h1 hu hu1 hn hi hlen' hnew' (Nat.le_refl _) (fun _ _ => rfl) (fun _ => rfl)
            · exact .own _ _ _ _ _ _ _ (by simp) (by simp) (by simp)
        · have := grows a n cap _ old (H.set j .dead) hkill (by omega) hroom hold hco e1
          rw [hkl] at this
          exact this
    · rename_i z'' xs hb'
      split at h
      case isFalse => simp at h
      rename_i hc
      obtain ⟨rfl, rfl, hon, hroom, hk, hpos⟩ := hc
      obtain ⟨e1, e2⟩ := rowdr_sub hon
      obtain ⟨old, hold, hco⟩ := own_cells (P := P) (w := w.drew) ed.rel (.inr hb') (ed.vr hr hx') hon
      simp only [Option.some.injEq, Prod.mk.injEq] at h
      obtain ⟨rfl, rfl⟩ := h
      have hcap := b2 hk
      exact grows a n cap _ old H (Evo.refl hr) (by omega) hroom hold hco e1
    · simp at h
  · simp at h
end
end Go.Ev
