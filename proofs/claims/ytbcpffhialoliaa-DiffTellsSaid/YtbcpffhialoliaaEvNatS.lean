/- Functions that are known by a contract: slices.Sorted of maps.Keys at whole numbers. Own work. -/
import Derived.Test.YtbcpffhialoliaaEvNatM
import Derived.Lib.SlKeysI
import Derived.Shelf.SlMaps.Equal
namespace Go.Ev
open Go Go.RowKit Go.Maps
set_option linter.unusedVariables false
set_option linter.unusedSimpArgs false

theorem evo_below_any {w w' : World} {S : Sta} {ρ : Pos} {H : Heap} (hr : Rel w S ρ H) (hb : Below w.heap.size w w') : Evo w S ρ H w' (fun g => S g ∨ (w.heap.size ≤ g ∧ g < w'.heap.size)) ρ H :=
  evo_data hr (evo_of_below_new (rel_none hr) hb)

def smallK (ks : List Int) : Prop := ks.length ≤ 1000000 ∧ ∀ k ∈ ks, -9223372036854775808 ≤ k ∧ k ≤ 9223372036854775807
instance (l : List Int) : Decidable (smallK l) := by unfold smallK; infer_instance
def sortedA (x : D) : Option (List Int) := match x with
  | .nilm => some []
  | .mapv es => some (es.map (·.1))
  | _ => none
def intRows (l : List Int) : List (List D) := l.map fun k => [.int .i64 k]
def natSO (k k1 : FuncId) : Callee := fun f args H =>
  if f = k then
    match args, H with
    | [.clo (.func g) [] [.ptr 0 0]], [.dbox [x]] => if g = k1 then (match sortedA x with
      | some l => if smallK l then some (.d (.list 1 (intRows l)), [.dbox [x]]) else none
      | none => none) else none
    | _, _ => none
  else none
theorem natSO_eq (k k1 : FuncId) {x : D} {l : List Int} (h : sortedA x = some l) : natSO k k1 k [.clo (.func k1) [] [.ptr 0 0]] [.dbox [x]] = if smallK l then some (.d (.list 1 (intRows l)), [.dbox [x]]) else none := by
  simp only [natSO, if_true, h]

theorem dr_row {w' : World} {S : Sta} {base ty : Nat} {v' : Value} {l : List Int} (how : w'.ownsRow base ty 1 v' l.length (l.map (Value.int .i64))) (hS : ∀ g, base ≤ g → g < w'.heap.size → S g) : DR w' S (.list 1 (intRows l)) v' := by
  obtain ⟨_, hrow⟩ := how
  rcases hrow with ⟨rfl, h0⟩ | ⟨g, cap', cur, rfl, hg, hblk, hcap2, hmax, hsz, htk⟩
  · have : l = [] := List.eq_nil_of_length_eq_zero h0
    subst this
    exact .list 1 [] none 0 0 0 0 (fun _ => undef) rfl (Nat.le_refl _) (by simp) (by simp) (by simp) (by simp)
  · have hglt : g < w'.heap.size := (Array.getElem?_eq_some_iff.1 hblk).1
    have hcell2 : ∀ j, j < l.length → w'.cell? ⟨g, 0 + j, none⟩ = some (.int .i64 (l.getD j 0)) := fun j hj => by
      have h5 : (cur.toList.take (l.length * 1)).getD j undef = .int .i64 (l.getD j 0) := by
        rw [htk]; simp [List.getD_eq_getElem?_getD, hj]
      rw [List.getD_eq_getElem?_getD, List.getElem?_take, if_pos (by omega)] at h5
      have hjs : j < cur.size := by omega
      have h6 : cur[j]? = some (.int .i64 (l.getD j 0)) := by
        rw [Array.getElem?_toList, Array.getElem?_eq_getElem hjs] at h5
        rw [Array.getElem?_eq_getElem hjs]
        simpa using h5
      rw [Nat.zero_add, cell_at hblk hjs]
      simp only [Array.getD_eq_getD_getElem?, h6, Option.getD_some]
    refine .list 1 _ _ _ _ g 0 (fun j => .int .i64 (l.getD j 0)) (by simp [intRows]) (by simpa [intRows] using hcap2) (fun _ => ⟨rfl, hS g hg hglt⟩) (fun j hj => ⟨hcell2 j (by simpa [intRows] using hj), rfl⟩) (fun i hi => by
      have hi' : i < l.length := by simpa [intRows] using hi
      simp [intRows, List.getD_eq_getElem?_getD, hi']) fun i hi j hj => ?_
    have hi' : i < l.length := by simpa [intRows] using hi
    obtain rfl : j = 0 := by omega
    have e2 : ((intRows l).getD i []).getD 0 .nilp = .int .i64 (l.getD i 0) := by simp [intRows, List.getD_eq_getElem?_getD, hi']
    rw [e2, Nat.mul_one, Nat.add_zero]
    exact .int _ _

theorem natSO_snd {P : Program} {k k1 ty : FuncId} (hb : HasBody P k)
    (h0 : ∀ (Bm : Nat) (w : World), Bm < w.heap.size → w.cell? ⟨Bm, 0, none⟩ = some (.map none) → Calls P k #[.func (.func k1) #[] #[.pointer (some ⟨Bm, 0, none⟩)]] w fun e w' => e = .returned (.slice none 0 0) ∧ Below w.heap.size w w')
    (h1 : ∀ (Bm b : Nat) (ents : Array MapEntry) (clk : Nat) (cs : List (Int × Value)) (w : World), Bm < w.heap.size → w.cell? ⟨Bm, 0, none⟩ = some (.map (some b)) → w.heap[b]? = some (.map ents clk) → Ents ents clk cs → smallK (cs.map (·.1)) →
      Calls P k #[.func (.func k1) #[] #[.pointer (some ⟨Bm, 0, none⟩)]] w fun e w' => ∃ v, e = .returned v ∧ w'.ownsRow w.heap.size ty 1 v (cs.map (·.1)).length ((cs.map (·.1)).map (Value.int .i64)) ∧ Below w.heap.size w w') : CallSnd P (natSO k k1) := by
  intro f args H r H' h
  unfold natSO at h
  split at h
  case isFalse => simp at h
  rename_i hf; subst hf
  split at h
  case h_2 => simp at h
  rename_i g x
  split at h
  case isFalse => simp at h
  rename_i hg; subst hg
  split at h
  case h_2 => simp at h
  rename_i l hl
  split at h
  case isFalse => simp at h
  rename_i hok
  simp only [Option.some.injEq, Prod.mk.injEq] at h
  obtain ⟨rfl, rfl⟩ := h
  refine ⟨hb, fun w S ρ cargs hr hlen hv => ?_⟩
  have e0 := hv 0 (by simp)
  simp only [List.getD_cons_zero] at e0
  rw [arr1 hlen]
  generalize cargs.getD 0 undef = v0 at e0
  cases e0 with
  | clo _ _ _ va vb ha hb' h5 h6 =>
  have hva : va = #[] := Array.eq_empty_of_size_eq_zero (by simpa using ha.symm)
  subst hva
  have e1 := h6 0 (by simp)
  rw [arr1 hb']
  generalize vb.getD 0 undef = v1 at e1
  simp only [List.getD_cons_zero] at e1
  obtain ⟨Bm, β, hp, rfl⟩ := vr_ptr_inv e1
  have hbk := hr.blk 0
  simp only [List.getD_cons_zero] at hbk
  obtain ⟨g2, c, e, fz, q1, ⟨q2, _⟩, q3, q4, q5, q6⟩ := hbk.resolve_left (by rw [hp]; simp)
  rw [hp] at q1
  simp only [Option.some.injEq, Prod.mk.injEq] at q1
  obtain ⟨rfl, rfl⟩ := q1
  have hBm := hr.rlt 0 _ _ hp
  have hcell : w.cell? ⟨Bm, 0, none⟩ = some (c.getD 0 undef) := cell_at q2 (by simp at q4; omega)
  have hx := q6 0 (by simp)
  simp only [List.getD_cons_zero] at hx
  generalize c.getD 0 undef = mv at hcell hx
  unfold sortedA at hl
  split at hl
  · injection hl with hl; subst hl
    cases hx
    refine (h0 Bm w hBm hcell).mono fun e w' ⟨he, hbl⟩ => ⟨_, _, ρ, he, evo_below_any hr hbl, .d _ _ ?_⟩
    exact .list 1 [] none 0 0 0 0 (fun _ => undef) rfl (Nat.le_refl _) (by simp) (by simp) (by simp) (by simp)
  · injection hl with hl; subst hl
    cases hx with
    | mapv es b ents clk cs g1 g2 g3 g4 g5 =>
    rw [g4] at hok ⊢
    refine (h1 Bm b ents clk cs w hBm hcell g2 g3 hok).mono fun e w' ⟨v', he, how, hbl⟩ => ⟨_, _, ρ, he, evo_below_any hr hbl, .d _ _ ?_⟩
    exact dr_row how fun g h1 h2 => .inr ⟨h1, h2⟩
  · simp at hl

/-! ### what the shelf asks -/
def anyR : Value → Option (DataW Value × List MemPlace) := fun v => some (.held v, [])
def dmA (p : Int × Value) : Lit × DataW Value := (.int .i64 p.1, .held p.2)
theorem owns_any {P : Program} {kt : TypeId} (K : Keyed P kt) (hk3 : P.underlying kt = some (.int .i64)) {w : World} {b : Nat} {ents : Array MapEntry} {clk : Nat} {cs : List (Int × Value)} (hb : w.heap[b]? = some (.map ents clk)) (h : Ents ents clk cs) (hn : cs.length ≤ maxLen)
    (hk : ∀ p ∈ cs, (Lit.int .i64 p.1).wf = true) : w.ownsMap P kt anyR b cs.length (.map (cs.map dmA)) := by
  have hrd : ∀ x ∈ ents.toList, ∃ p ∈ cs, x.key = .int .i64 p.1 ∧ x.val = p.2 := fun x hx => by
    have : (x.key, x.val) ∈ kvs ents := List.mem_map.2 ⟨x, hx, rfl⟩
    obtain ⟨p, hp, hq⟩ := List.mem_map.1 (h.prm.mem_iff.1 this)
    exact ⟨p, hp, (congrArg Prod.fst hq).symm, (congrArg Prod.snd hq).symm⟩
  have key : ∀ p ∈ cs, keyOf P kt (.int .i64 p.1) = some (.int .i64 p.1) := fun p hp => Maps.keyOf_int_mk hk3 (hk p hp)
  have hsz : ents.size = cs.length := h.len
  have F : WideElems.Fit P kt anyR ents clk := by
    refine ⟨by rw [hsz]; exact hn, h.stm, fun x hx => ?_⟩
    obtain ⟨p, hp, e1, e2⟩ := hrd x hx
    refine ⟨dmA p, ?_⟩
    simp only [WideElems.rd, e1, e2, key p hp]
    rfl
  refine ⟨ents, clk, hb, F, Nat.le_of_eq hsz, ?_⟩
  congr 1
  have hp1 : (ents.toList.map (WideElems.rg P kt anyR)).Perm (cs.map dmA) := by
    have e0 : ents.toList.map (WideElems.rg P kt anyR) = (kvs ents).map fun q => WideElems.rg P kt anyR ⟨q.1, q.2, 0⟩ := by unfold kvs; rw [List.map_map]; rfl
    rw [e0]
    refine (h.prm.map _).trans ?_
    rw [List.map_map]
    refine List.Perm.of_eq (List.map_congr_left fun p hp => ?_)
    simp only [Function.comp_apply, kv, WideElems.rg, WideElems.rd, key p hp]
    rfl
  refine (ChangeMaps.eq_of_perm_sorted ((WideShapes.sorted_perm _).trans hp1) (Maps.sorted_sorted K.one _ (Maps.fit_keys F) (Maps.fit_apart K F)) ?_).symm
  rw [List.pairwise_map]
  exact h.srt.imp fun h => by simpa [dmA, Lit.before] using h
theorem wf_i64 {k : Int} (h : -9223372036854775808 ≤ k ∧ k ≤ 9223372036854775807) : (Lit.int .i64 k).wf = true := by
  simp [Lit.wf, IntKind.min, IntKind.max, IntKind.signed, IntKind.bits]
  omega
theorem sorted_keys {cs : List (Int × Value)} (h : SrtM cs) {ss : List Int} (hp : ss.Perm (intKeys (.map (cs.map dmA)))) : ss.mergeSort (fun x y => decide (x ≤ y)) = cs.map (·.1) ∧ ss.length = cs.length := by
  have e : intKeys (.map (cs.map dmA)) = cs.map (·.1) := by
    simp only [intKeys, List.map_map]
    exact List.map_congr_left fun p _ => rfl
  rw [e] at hp
  refine ⟨?_, by rw [hp.length_eq]; simp⟩
  have := mergeSort_of_perm_i hp
  have e2 : (cs.map (·.1)).mergeSort (fun x y => decide (x ≤ y)) = cs.map (·.1) := by
    refine List.mergeSort_of_pairwise ?_
    rw [List.pairwise_map]
    exact h.imp fun h => by simp; omega
  exact this.trans e2
end Go.Ev
