/- maps.Copy at pieces (elements of four cells): a walk, after the shelf's at elements of one cell. Own work. -/
import Derived.Shelf.SlMaps.Copy
import Derived.Test.YtbcpffhialoliaaEvMcp
import Derived.Test.YtbcpffhialoliaaProg
namespace Go.Proofs
open Go.Shelf Go.RowKit Go.Maps
def pieceR : Value → Option (DataW Value × List MemPlace)
  | .agg ⟨[.int .i64 a, .int .i64 b, .int .i64 c, .slice p l q]⟩ => some (.held (.agg #[.int .i64 a, .int .i64 b, .int .i64 c, .slice p l q]), [])
  | _ => none
theorem pieceR_inv {v : Value} {y : DataW Value × List MemPlace} (h : pieceR v = some y) : ∃ a b c p l q, v = .agg #[.int .i64 a, .int .i64 b, .int .i64 c, .slice p l q] ∧ y = (.held (.agg #[.int .i64 a, .int .i64 b, .int .i64 c, .slice p l q]), []) := by
  unfold pieceR at h
  split at h
  · rename_i a b c p l q
    injection h with h
    exact ⟨a, b, c, p, l, q, rfl, h.symm⟩
  · cases h
set_option maxHeartbeats 4000000 in
set_option maxRecDepth 100000 in
theorem Try.copyM (bd bs nd ns : Nat) (Dd Ds : DataW Value) (w : World) (hd : w.ownsMap Try.prog 3 pieceR bd nd Dd) (hs : w.ownsMap Try.prog 3 pieceR bs ns Ds) (hne : bd ≠ bs) (hroom : nd + Maps.size Ds ≤ maxLen) :
    Calls Try.prog 49 #[.map (some bd), .map (some bs)] w fun e w' => e = .returned (.tuple #[]) ∧ w'.ownsMap Try.prog 3 pieceR bd (nd + Maps.size Ds) (Lib.mergeD Dd Ds) ∧ w'.ownsMap Try.prog 3 pieceR bs ns Ds ∧ w.grownBy w' (some bd) := by
  have K : Keyed Try.prog 3 := int_keyed (q := .i64) Try.underlying3
  have hbd := hd.lt
  have hbs := hs.lt
  go_enter Try.func49, Try.ntmps49
  go_wp2_with (first
    | (at_range; refine wpList_range_own _ rfl _ 68 rfl 3 39 K Try.underlying68 pieceR bs ns _ rfl hs ?_; intro w0 hrg0 hg0 hs0)
    | go_in)
  go_frame
  go_loopw [8] (fun _ wr => ∃ (left : Lit → Bool) (cnt : Nat) (Dout : DataW Value), wr.ranges Try.prog 3 pieceR bs w.heap.size ns Ds left cnt ∧ cnt ≤ Maps.size Ds ∧
      wr.ownsMap Try.prog 3 pieceR bd (nd + (Maps.size Ds - cnt)) Dout ∧ Merged Dout Dd Ds left ∧ w.grownBy wr (some bd))
    (fun _ wr => wr.rangeLeft bs w.heap.size)
  case atStart =>
    exact ⟨_, _, Dd, hrg0, Nat.le_refl _, (hd.kept hg0 (by simp)).mono (by omega), merged_start Dd Ds, hg0.but _⟩
  case round =>
    obtain ⟨left, cnt, Dout, hrg, hcs, hout, hM, hgw⟩ := hrel
    go_wp2_with (first
      | (at_next; refine wpList_next_ranges _ rfl _ rfl 3 K pieceR id id (fun key _ _ => ⟨key, rfl⟩) (fun v _ _ => ⟨v, rfl⟩) bs w.heap.size ns _ _ _ rfl hrg ?_ ?_)
      | go_in)
    · intro hc0 hl0
      go_wp2
      go_end0
      subst hc0
      have e := merged_eq K.one hM hl0 (hout.canon K) (hd.canonK K) (hs.canonK K)
      subst e
      exact ⟨rfl, by simpa using hout, hrg.owns, hgw⟩
    · intro x c kl yd yp w1 cnt1 hkey hlx hv hat hrg1 hlt hg1 hs1 hen
      obtain ⟨c0, c1, c2, p, l, q, rfl, ey⟩ := pieceR_inv hv
      have hout1 := hout.kept hg1 (fun e => by have := Option.some.inj e; omega)
      have g1 : w1.grownBy (w1.alloc (Obj.cells #[.int .i64 c0, .int .i64 c1, .int .i64 c2, .slice p l q] 39)) none := World.grownBy_alloc _ _ none
      have hout2 := hout1.kept g1 (by simp)
      have hrg2 := hrg1.kept g1 (by simp) (by simp)
      go_wp2_with (first
        | (at_mapUpdate; refine wpList_mapUpdate_own _ rfl _ _ _ 68 rfl 3 39 K Try.underlying68 pieceR bd _ _ rfl hout2 (by omega) _ _ _ rfl rfl hkey yd yp hv ?_; intro w2 hout3 hg2; go_frame)
        | go_in)
      have hrg3 := hrg2.kept hg2 (fun e => hne (Option.some.inj e).symm) (fun e => by have := Option.some.inj e; omega)
      refine ⟨⟨_, cnt1, _, hrg3, by omega, hout3.mono (by omega), merged_step hM hout.isMap (K.key hkey) hat, (((hgw.andThen hg1 (fun j hj => .inl (by cases hj; exact Nat.le_refl _))).andThen g1 (fun j hj => by cases hj))).andThen hg2 (fun j hj => .inr hj)⟩, ?_⟩
      rw [hrg3.left_eq, hrg.left_eq]; exact hlt
theorem Try.copyC : Ev.CopyC Try.prog 49 := by
  intro w bd bs entd ents clkd clks csd css hbd hed hbs hes hne l1 l2 p1 p2
  have K : Keyed Try.prog 3 := int_keyed (q := .i64) Try.underlying3
  have hR : ∀ v, Ev.pieceV v → pieceR v = some (.held v, []) := fun v hv => by
    obtain ⟨a, b, c, p, l, q, rfl⟩ := hv
    rfl
  have hR2 : ∀ v y, pieceR v = some y → y.1 = .held v := fun v y h => by
    obtain ⟨a, b, c, p, l, q, rfl, rfl⟩ := pieceR_inv h
    rfl
  have hm : (2000000 : Nat) ≤ maxLen := by decide
  have hd := Ev.owns_R K Try.underlying3 (R := pieceR) hbd hed (by omega) (fun p hp => Ev.wf_i64 (p1 p hp).2) (fun p hp => hR _ (p1 p hp).1)
  have hs := Ev.owns_R K Try.underlying3 (R := pieceR) hbs hes (by omega) (fun p hp => Ev.wf_i64 (p2 p hp).2) (fun p hp => hR _ (p2 p hp).1)
  have hsz : Maps.size (.map (css.map Ev.dmA) : DataW Value) = css.length := by simp [Maps.size]
  refine (Try.copyM bd bs csd.length css.length _ _ w hd hs hne (by rw [hsz]; omega)).mono fun e w' ⟨he, ho, _, hg⟩ => ⟨he, ?_⟩
  rw [Ev.merge_dmA hed.srt] at ho
  obtain ⟨ents', clk', hb', hE⟩ := Ev.ents_of_own K Try.underlying3 hR2 (Ev.merge_srt hed.srt) ho
  refine ⟨ents', clk', hE, ?_⟩
  refine ⟨hg.os, hg.tape, hg.output, by rw [Ev.setBlk_size]; exact hg.size, fun k hk => ?_⟩
  by_cases hkb : k = bd
  · subst hkb
    rw [hb', Ev.setBlk_same hbd]
  · rw [Ev.setBlk_other hkb]
    exact hg.block k hk (fun e => hkb (Option.some.inj e))
theorem Try.copyN : Ev.CallSnd Try.prog (Ev.natMCp 49) :=
  Ev.natMCp_snd ⟨_, Try.func49, by kernel_rfl, of_decide_eq_true (by kernel_rfl)⟩ Try.copyC
end Go.Proofs
