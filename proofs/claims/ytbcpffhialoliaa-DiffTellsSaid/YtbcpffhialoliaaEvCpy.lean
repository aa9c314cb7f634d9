/- copy into an own slice. Own work. -/
import Derived.Test.YtbcpffhialoliaaEvRow
import Derived.Test.YtbcpffhialoliaaEvSlc
namespace Go.Ev
open Go
set_option linter.unusedVariables false
set_option linter.unusedSimpArgs false
section
variable {w : World} {S : Sta} {ρ : Pos} {H : Heap} {P : Program}
theorem gives_cpy (hr : Rel w S ρ H) {ts : Array TypeId} {t e ty : TypeId} {ti : TypeInfo} (h0 : ts[0]? = some t) (hu : P.underlying t = some (.slice e)) (hi : P.info? e = some ti)
    {x y : AV} {vx vy : Value} (hvx : VR w S ρ x vx) (hvy : VR w S ρ y vy) {r : AV} {H' : Heap} (he : bltA (.cpy ti.size) [x, y] H = some (r, H')) : Gives P w S ρ H r H' (Builtin.copy_ ts ty #[vx, vy]) := by
  unfold bltA at he
  split at he
  case h_1 => rename_i hh _; cases hh
  case h_3 => simp at he
  rename_i zz i z1 o n k yy hq1 hq2
  injection hq1 with hq1; subst hq1
  simp only [List.cons.injEq, and_true] at hq2
  obtain ⟨rfl, rfl⟩ := hq2
  split at he
  case h_2 => simp at he
  rename_i ys z' xs hys hb
  split at he
  case isFalse => simp at he
  rename_i hc
  obtain ⟨hz1, hz2, hf, hle⟩ := hc
  simp only [Option.some.injEq, Prod.mk.injEq] at he
  obtain ⟨rfl, rfl⟩ := he
  subst hz1; subst hz2
  obtain ⟨hlen, new, hnew, hcn⟩ := tailA_sound (P := P) hr hvy hys
  have hnl : new.length = ys.length * ti.size := by have := hcn.size; simpa using this
  cases hvx with
  | own _ _ _ _ _ a cap hn hk hp =>
    have hf2 : o + ys.length ≤ xs.length := Nat.le_trans (Nat.add_le_add_left hle o) hf
    have hmin : Nat.min ys.length n = ys.length := Nat.min_eq_left hle
    by_cases hn0 : cap = 0
    · have hy0 : ys.length = 0 := by omega
      have hys0 : ys = [] := List.eq_nil_of_length_eq_zero hy0
      subst hys0
      have e1 : xs.take o ++ [] ++ xs.drop (o + ([] : List (List D)).length) = xs := by simp
      rw [e1, set_self hb (fun h => by cases h)]
      have hnew0 : new = [] := List.eq_nil_of_length_eq_zero (by simpa using hnl)
      subst hnew0
      have hm0 : Nat.min 0 n = 0 := Nat.min_eq_left (Nat.zero_le _)
      simp only [List.length_nil] at hnew hlen hmin
      refine gives_same hr (cv := .int .i64 0) ?_ (.d _ _ (.int ..))
      cases a with
      | none => simp [Builtin.copy_, h0, run_underlying hu, hlen, run_sizeOf hi, hnew, hm0, goInt, Result.andThen]
      | some b => simp [Builtin.copy_, h0, run_underlying hu, hlen, run_sizeOf hi, hnew, hm0, goInt, storeCells, Result.andThen]
    · obtain ⟨g, β, hp1, rfl, hp3⟩ := hp (by omega)
      obtain ⟨c, e', fz, w1, w2, w3, _, _, ev⟩ := evo_rows (ys := ys) hr hb hp1 hf2 (vs := new) hnl
        (fun u hu => by
          obtain ⟨q, hq, rfl⟩ := List.getElem_of_mem hu
          have := hcn.ones q (by omega)
          simpa [Array.getD, hq] using this)
        hcn.wide
        (fun k hk j hj => by
          have := hcn.cell k hk j hj
          rwa [← toList_getD] at this)
      refine ⟨.int .i64 ys.length, _, S, ρ, ?_, ev, .d _ _ (.int ..)⟩
      have hst := run_storeCells (P := P) new w g (β + o * ti.size) 0 c e' fz w1 w2 (by simpa using w3) (fun u hu => by
          obtain ⟨q, hq, rfl⟩ := List.getElem_of_mem hu
          have := hcn.ones q (by omega)
          simpa [Array.getD, hq] using this)
      simp only [Nat.add_zero] at hst
      simp [Builtin.copy_, h0, run_underlying hu, hlen, run_sizeOf hi, hnew, hmin, hst, goInt]
end
end Go.Ev
