/- Which bytes any request asks for, of any object, is just what the document says, for every input. No conditions. -/
import Derived.Test.YtplnioclkacgkaaGreatDoorRows
import Derived.Test.YtplnioclkacgkaaGreatDoorCards
import Derived.Test.YtplnioclkacgkaaGreatDoorTie
import Derived.Test.YtplnioclkacgkaaGreatDoorIfrN
import Derived.Test.YtplnioclkacgkaaGreatDoorEvArg
import Derived.ProofKit
import Derived.WalkKit
import Derived.LaidMore
import Derived.OpenShut
import Derived.SevenTiedAt
import Derived.Lay
import Derived.MakeChecks
namespace Go.Proofs.YtplnioclkacgkaaGreatDoor
open Go Go.ChangeShapes Go.WideShapes Go.ChangeAt Go.RowKit Go.Ev
set_option linter.unusedVariables false
set_option linter.unusedSimpArgs false
theorem Tryz.own : ownKnob Tryz.prog.godebug = Option.none := by kernel_rfl
theorem Tryz.laidOut : laidOutB Tryz.prog = true := by kernel_rfl
theorem sh0 : shOf Tryz.prog 50 9 = some (.s .nil) := by kernel_rfl
theorem sh1 : shOf Tryz.prog 50 9 = some (.s .nil) := by kernel_rfl
theorem sh2 : shOf Tryz.prog 50 9 = some (.s .nil) := by kernel_rfl
theorem sh3 : shOf Tryz.prog 50 3 = some (.i .i64 .nil) := by kernel_rfl
theorem prms : Tryz.f3.params.toList = [9, 9, 9, 3] := by rw [Tryz.params3]
theorem gl_laid {W : World} (h : laidMetH Tryz.prog ([("unicode/utf8.acceptRanges", Rows.laid_unicode_utf8_acceptRanges), ("unicode/utf8.first", Rows.laid_unicode_utf8_first)]) W) (hs : W.ShapedOpen Tryz.prog) : Gl W (Old W) := ⟨fun p hp => by simp [glT] at hp, fun g hg => by simp [glI] at hg⟩
theorem law_calls_true : ∀ dss, OkAll Tryz.prog Tryz.f3.params.toList dss → call Ir.ir 3 (argsA Tryz.prog Tryz.f3.params.toList dss) [] = some (.d (.bool true), []) := by
  intro dss h
  rw [prms] at h ⊢
  obtain ⟨_, _, rfl, h0, h⟩ := okAll_cons sh0 h
  obtain ⟨_, _, rfl, h1, h⟩ := okAll_cons sh1 h
  obtain ⟨_, _, rfl, h2, h⟩ := okAll_cons sh2 h
  obtain ⟨_, _, rfl, h3, h⟩ := okAll_cons sh3 h
  obtain rfl := okAll_nil h
  obtain ⟨s0, _, rfl, l0, _⟩ := ok_s h0
  obtain ⟨s1, _, rfl, l1, _⟩ := ok_s h1
  obtain ⟨s2, _, rfl, l2, _⟩ := ok_s h2
  obtain ⟨n, _, rfl, _, _, _⟩ := ok_i h3
  simp only [argsA, argA_s Tryz.underlying9, argA_i Tryz.underlying3]
  exact t_Chooses s0 s1 s2 (by simp [reachBytes] at l0; omega) (by simp [reachBytes] at l1; omega) (by simp [reachBytes] at l2; omega) n
theorem law_lifted (os : Os) (started : os.Started) (H : Type) (enc : TypeId × Value → H) :
    ReturnsInHanded {} Tryz.checked os 3 .any (fun w args => (Rows.ifrangeChoosesSpec.pre enc Tryz.prog Tryz.f3 [] false w args ∧ laidMetH Tryz.prog ([("unicode/utf8.acceptRanges", Rows.laid_unicode_utf8_acceptRanges), ("unicode/utf8.first", Rows.laid_unicode_utf8_first)]) w) ∧ sizedMet enc Tryz.prog Tryz.f3 (OpenSpec.ofChange Rows.ifrangeChoosesSpec) false w args) (Rows.ifrangeChoosesSpec.post enc Tryz.prog Tryz.f3 false true false false) := by
  refine returns_laid (C := Tryz.checked) Tryz.own started (by kernel_rfl) Ir.tab Tryz.func3 Tryz.laidOut (tb := 4) (fn := Tryz.f3) (by kernel_rfl) Tryz.underlying4 rfl ?_ ?_ law_calls_true true false
    (ChangeSpec.witness_shaped (enc := enc) (C := Tryz.checked) (os := os) (X := fun w _ => laidMetH Tryz.prog ([("unicode/utf8.acceptRanges", Rows.laid_unicode_utf8_acceptRanges), ("unicode/utf8.first", Rows.laid_unicode_utf8_first)]) w) false (World.laidAll Tryz.prog os ([("unicode/utf8.acceptRanges", Rows.laid_unicode_utf8_acceptRanges), ("unicode/utf8.first", Rows.laid_unicode_utf8_first)])) #[.string ⟨#[]⟩, .string ⟨#[]⟩, .string ⟨#[]⟩, .int .i64 0] 12 (World.laidAll_os _ _ _) (World.shaped_of_ZipB (by kernel_rfl) (by kernel_rfl)) (by kernel_rfl) (by kernel_rfl) (by kernel_rfl) (by rw [MakeChecks.laidMetH_plain _ _ _ (by kernel_rfl)]; exact laidMet_laidAll _ (by kernel_rfl) (by kernel_rfl))) (fun _ h hs => gl_laid h hs)
  · intro ds hd
    have hd2 : ds.length = 4 := hd
    match ds, hd2 with
    | [_, _, _, _], _ => rfl
  · intro t ht
    have : t = 9 ∨ t = 3 := by
      have h2 : t ∈ Tryz.f3.params.toList := ht
      rw [prms] at h2; simp only [List.mem_cons, List.not_mem_nil, or_false] at h2; rcases h2 with rfl | rfl | rfl | rfl <;> simp
    rcases this with rfl | rfl
    · exact ⟨⟨_, sh0⟩, by kernel_rfl, of_decide_eq_true (by kernel_rfl)⟩
    · exact ⟨⟨_, sh3⟩, by kernel_rfl, of_decide_eq_true (by kernel_rfl)⟩
theorem row_holds : Rows.ifrangeChoosesRow.holds Tryz.pinned (OpenSpec.ofChange Rows.ifrangeChoosesSpec) :=
  OpenClaim.holds_of_wide 3 Tryz.f3 rfl rfl rfl rfl rfl rfl rfl ⟨rfl, rfl, rfl, rfl, rfl⟩ rfl rfl rfl rfl rfl (by kernel_rfl) Tryz.func3 (by kernel_rfl)
    (of_decide_eq_true (by kernel_rfl)) (by unfold Func.isWrapper; first | (rw [if_pos (by decide +kernel)]; kernel_rfl) | (rw [if_neg (by decide +kernel)]; exact ⟨rfl, rfl⟩))
    (fun os started H enc _ => law_lifted os started H enc)
theorem ifrangeChooses_holds : Rows.IfrangeChoosesCardSaid :=
  Claim7.holds_tied_plain_at .later [] [.data, .pinned] true (true, "2aafe58f8ce1cf7f8be2b423477de634d8534122cb88c0084daabd83612657e9") false
    row_holds (fun _ h => by cases h) (by kernel_rfl) (fun _ h => by cases h) ifrangeChooses_row_tie rfl ⟨rfl, rfl⟩ (by kernel_rfl) rfl
    (fun f fn hf hfn => by
      obtain rfl : f = 3 := Option.some.inj ((show Tryz.prog.funcNamed "spence/spencelaw09.IfrangeChooses" = some 3 by kernel_rfl).symm.trans hf) |>.symm
      obtain rfl : fn = Tryz.f3 := (Option.some.inj (Tryz.func3.symm.trans hfn)).symm
      exact ⟨by kernel_rfl, fun j t ht => by
        have hm : t ∈ Tryz.f3.params.toList := by simpa using Array.mem_of_getElem? ht
        rw [prms] at hm
        have hall : ([9, 9, 9, 3].all fun u => !Tryz.prog.wantsStandIn u) = true := by kernel_rfl
        exact (show Tryz.prog.wantsStandIn t = false by simpa using List.all_eq_true.1 hall t hm)⟩)
    (by kernel_rfl)
end Go.Proofs.YtplnioclkacgkaaGreatDoor
