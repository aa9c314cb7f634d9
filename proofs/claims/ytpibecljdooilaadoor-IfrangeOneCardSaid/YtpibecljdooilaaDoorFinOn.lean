/- A request for one range by its own text gets just that range, to the end at most, or 416 where nothing is there, for every input. No conditions. -/
import Derived.Test.YtpibecljdooilaaDoorRows
import Derived.Test.YtpibecljdooilaaDoorCards
import Derived.Test.YtpibecljdooilaaDoorTie
import Derived.Test.YtpibecljdooilaaDoorIfrD
import Derived.Test.YtpibecljdooilaaDoorEvArg
import Derived.ProofKit
import Derived.WalkKit
import Derived.LaidMore
import Derived.OpenShut
import Derived.SevenTiedAt
import Derived.Lay
import Derived.MakeChecks
namespace Go.Proofs.YtpibecljdooilaaDoor
open Go Go.ChangeShapes Go.WideShapes Go.ChangeAt Go.RowKit Go.Ev
set_option linter.unusedVariables false
set_option linter.unusedSimpArgs false
theorem Tryd.own : ownKnob Tryd.prog.godebug = Option.none := by kernel_rfl
theorem Tryd.laidOut : laidOutB Tryd.prog = true := by kernel_rfl
theorem sh0 : shOf Tryd.prog 50 3 = some (.i .i64 .nil) := by kernel_rfl
theorem sh1 : shOf Tryd.prog 50 3 = some (.i .i64 .nil) := by kernel_rfl
theorem sh2 : shOf Tryd.prog 50 9 = some (.s .nil) := by kernel_rfl
theorem sh3 : shOf Tryd.prog 50 3 = some (.i .i64 .nil) := by kernel_rfl
theorem prms : Tryd.f8.params.toList = [3, 3, 9, 3] := by rw [Tryd.params8]
theorem gl_laid {W : World} (h : laidMetH Tryd.prog ([("unicode/utf8.acceptRanges", Rows.laid_unicode_utf8_acceptRanges), ("unicode/utf8.first", Rows.laid_unicode_utf8_first)]) W) : Gl W (Old W) := fun p hp => by simp [glT] at hp
theorem law_calls_true : ∀ dss, OkAll Tryd.prog Tryd.f8.params.toList dss → call Ir.ir 8 (argsA Tryd.prog Tryd.f8.params.toList dss) [] = some (.d (.bool true), []) := by
  intro dss h
  rw [prms] at h ⊢
  obtain ⟨_, _, rfl, h0, h⟩ := okAll_cons sh0 h
  obtain ⟨_, _, rfl, h1, h⟩ := okAll_cons sh1 h
  obtain ⟨_, _, rfl, h2, h⟩ := okAll_cons sh2 h
  obtain ⟨_, _, rfl, h3, h⟩ := okAll_cons sh3 h
  obtain rfl := okAll_nil h
  obtain ⟨a, _, rfl, _, _, h0⟩ := ok_i h0
  obtain ⟨b, _, rfl, _, _, h1⟩ := ok_i h1
  obtain ⟨c, _, rfl, l2, h2⟩ := ok_s h2
  obtain ⟨n, _, rfl, _, _, h3⟩ := ok_i h3
  simp only [argsA, argA_s Tryd.underlying9, argA_i Tryd.underlying3]
  exact t_One a b c (by simp [reachBytes] at l2; omega) n
theorem law_lifted (os : Os) (started : os.Started) (H : Type) (enc : TypeId × Value → H) :
    ReturnsInHanded {} Tryd.checked os 8 .any (fun w args => (Rows.ifrangeOneSpec.pre enc Tryd.prog Tryd.f8 [] false w args ∧ laidMetH Tryd.prog ([("unicode/utf8.acceptRanges", Rows.laid_unicode_utf8_acceptRanges), ("unicode/utf8.first", Rows.laid_unicode_utf8_first)]) w) ∧ sizedMet enc Tryd.prog Tryd.f8 (OpenSpec.ofChange Rows.ifrangeOneSpec) false w args) (Rows.ifrangeOneSpec.post enc Tryd.prog Tryd.f8 false true false false) := by
  refine returns_laid (C := Tryd.checked) Tryd.own started (by kernel_rfl) Ir.tab Tryd.func8 Tryd.laidOut (tb := 4) (fn := Tryd.f8) (by kernel_rfl) Tryd.underlying4 rfl ?_ ?_ law_calls_true true false
    (ChangeSpec.witness_shaped (enc := enc) (C := Tryd.checked) (os := os) (X := fun w _ => laidMetH Tryd.prog ([("unicode/utf8.acceptRanges", Rows.laid_unicode_utf8_acceptRanges), ("unicode/utf8.first", Rows.laid_unicode_utf8_first)]) w) false (World.laidAll Tryd.prog os ([("unicode/utf8.acceptRanges", Rows.laid_unicode_utf8_acceptRanges), ("unicode/utf8.first", Rows.laid_unicode_utf8_first)])) #[.int .i64 0, .int .i64 0, .string ⟨#[]⟩, .int .i64 0] 12 (World.laidAll_os _ _ _) (World.shaped_of_ZipB (by kernel_rfl) (by kernel_rfl)) (by kernel_rfl) (by kernel_rfl) (by kernel_rfl) (by rw [MakeChecks.laidMetH_plain _ _ _ (by kernel_rfl)]; exact laidMet_laidAll _ (by kernel_rfl) (by kernel_rfl))) (fun _ h => gl_laid h)
  · intro ds hd
    have hd2 : ds.length = 4 := hd
    match ds, hd2 with
    | [_, _, _, _], _ => rfl
  · intro t ht
    have : t = 3 ∨ t = 9 := by
      have h2 : t ∈ Tryd.f8.params.toList := ht
      rw [prms] at h2; simp only [List.mem_cons, List.not_mem_nil, or_false] at h2; rcases h2 with rfl | rfl | rfl | rfl <;> simp
    rcases this with rfl | rfl
    · exact ⟨⟨_, sh0⟩, by kernel_rfl, of_decide_eq_true (by kernel_rfl)⟩
    · exact ⟨⟨_, sh2⟩, by kernel_rfl, of_decide_eq_true (by kernel_rfl)⟩
theorem row_holds : Rows.ifrangeOneRow.holds Tryd.pinned (OpenSpec.ofChange Rows.ifrangeOneSpec) :=
  OpenClaim.holds_of_wide 8 Tryd.f8 rfl rfl rfl rfl rfl rfl rfl ⟨rfl, rfl, rfl, rfl, rfl⟩ rfl rfl rfl rfl rfl (by kernel_rfl) Tryd.func8 (by kernel_rfl)
    (of_decide_eq_true (by kernel_rfl)) (by unfold Func.isWrapper; first | (rw [if_pos (by decide +kernel)]; kernel_rfl) | (rw [if_neg (by decide +kernel)]; exact ⟨rfl, rfl⟩))
    (fun os started H enc _ => law_lifted os started H enc)
theorem ifrangeOne_holds : Rows.IfrangeOneCardSaid :=
  Claim7.holds_tied_plain_at .later [] [.data, .pinned] true (true, "9ff114352264addb8c893f9962fcf05f2b897e218beff307cc0e513103f376b9") true
    row_holds (fun _ h => by cases h) (by kernel_rfl) (fun _ h => by cases h) ifrangeOne_row_tie rfl ⟨rfl, rfl⟩ (by kernel_rfl) rfl
    (fun f fn hf hfn => by
      obtain rfl : f = 8 := Option.some.inj ((show Tryd.prog.funcNamed "spence/spencelaw09.IfrangeOne" = some 8 by kernel_rfl).symm.trans hf) |>.symm
      obtain rfl : fn = Tryd.f8 := (Option.some.inj (Tryd.func8.symm.trans hfn)).symm
      exact ⟨by kernel_rfl, fun j t ht => by
        have hm : t ∈ Tryd.f8.params.toList := by simpa using Array.mem_of_getElem? ht
        rw [prms] at hm
        have hall : ([3, 3, 9, 3].all fun u => !Tryd.prog.wantsStandIn u) = true := by kernel_rfl
        exact (show Tryd.prog.wantsStandIn t = false by simpa using List.all_eq_true.1 hall t hm)⟩)
    (by kernel_rfl)
end Go.Proofs.YtpibecljdooilaaDoor
