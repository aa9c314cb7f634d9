/- A native that makes one body of many parts (multi.Put), and how the evaluator's word becomes a contract for a walk. Own work. -/
import Derived.Test.YtpibecljdooilaaDoorEvNatX
import Derived.Test.YtpibecljdooilaaDoorEvNatS
import Derived.Test.YtpibecljdooilaaDoorEvExt
import Derived.Test.YtpibecljdooilaaDoorEvArg
namespace Go.Ev
open Go Go.RowKit
set_option linter.unusedVariables false
set_option linter.unusedSimpArgs false
/-- What the evaluator says of a call that holds no block, as a contract. -/
theorem calls_plain {P : Program} {ir : IR} (ht : Tab P ir) {f : FuncId} {args : List AV} {r : AV} (h : call ir f args [] = some (r, [])) {w : World} {S : Sta} {ρ : Pos} (hr : Rel w S ρ []) {cargs : Array Value}
    (hl : args.length = cargs.size) (hv : ∀ i, i < args.length → VR w S ρ (args.getD i .unk) (cargs.getD i undef)) :
    Calls P f cargs w fun e w' => ∃ cv S' ρ', e = .returned cv ∧ Below w.heap.size w w' ∧ VR w' S' ρ' r cv := by
  refine ((call_sound ht f args [] r [] h).2 w S ρ cargs hr hl hv).mono fun e w' ⟨cv, S', ρ', h1, h2, h3⟩ => ⟨cv, S', ρ', h1, ⟨h2.os, h2.tape, h2.output, h2.size, fun k hk => h2.frame k hk (fun ⟨i, β, hm, _⟩ => by simp [Blk.mut] at hm)⟩, h3⟩
theorem rel_below {w w' : World} {S : Sta} {ρ : Pos} (hr : Rel w S ρ []) (hb : Below w.heap.size w w') : Rel w' S ρ [] := (evo_of_below hr hb).rel
theorem vr_bool {w : World} {S : Sta} {ρ : Pos} {b : Bool} {v : Value} (h : VR w S ρ (.d (.bool b)) v) : v = .bool b := by cases h.dr; rfl
theorem vr_str {w : World} {S : Sta} {ρ : Pos} {s : List UInt8} {v : Value} (h : VR w S ρ (.d (.str s)) v) : v = .string ⟨s.toArray⟩ := by cases h.dr; rfl
theorem vr_int {w : World} {S : Sta} {ρ : Pos} {k : IntKind} {n : Int} {v : Value} (h : VR w S ρ (.d (.int k n)) v) : v = .int k n := by cases h.dr; rfl

def decB : List (List D) → Option (List UInt8)
  | [] => some []
  | [.int .u8 n] :: l => match decB l with
    | some s => if 0 ≤ n ∧ n < 256 then some (UInt8.ofNat n.toNat :: s) else none
    | none => none
  | _ :: _ => none
theorem decB_rB : ∀ b : List UInt8, decB (rB b) = some b
  | [] => rfl
  | x :: b => by
    have ih := decB_rB b
    have hx := x.toNat_lt
    show (match decB (rB b) with | some s => if (0 : Int) ≤ (x.toNat : Int) ∧ (x.toNat : Int) < 256 then some (UInt8.ofNat (x.toNat : Int).toNat :: s) else none | none => none) = _
    rw [ih]
    simp only
    rw [if_pos (by omega), Int.toNat_natCast, UInt8.ofNat_toNat]
theorem decB_inv : ∀ {xs : List (List D)} {b : List UInt8}, decB xs = some b → xs = rB b
  | [], b, h => by simp [decB] at h; subst h; rfl
  | x :: xs, b, h => by
    unfold decB at h
    split at h
    · rename_i e; simp at e
    · rename_i n r e
      simp only [List.cons.injEq] at e
      obtain ⟨rfl, rfl⟩ := e
      split at h
      · rename_i s hs
        split at h
        · rename_i hn
          injection h with h; subst h
          have := decB_inv hs
          rw [this]
          show _ = [D.int .u8 ((UInt8.ofNat n.toNat).toNat : Int)] :: rB s
          have e2 : ((UInt8.ofNat n.toNat).toNat : Int) = n := by rw [UInt8.toNat_ofNat']; omega
          rw [e2]
        · simp at h
      · simp at h
    · simp at h

abbrev PartD := Int × Int × List UInt8
def partRow (p : PartD) : List D := [.int .i64 p.1, .int .i64 p.2.1, .list 1 (rB p.2.2)]
def partsOf : List (List D) → Option (List PartD)
  | [] => some []
  | [.int .i64 f, .int .i64 t, .list 1 b] :: l => match decB b, partsOf l with
    | some s, some r => some ((f, t, s) :: r)
    | _, _ => none
  | _ :: _ => none
theorem partsOf_map : ∀ l : List PartD, partsOf (l.map partRow) = some l
  | [] => rfl
  | p :: l => by
    have ih := partsOf_map l
    have h1 := decB_rB p.2.2
    show (match decB (rB p.2.2), partsOf (l.map partRow) with | some s, some r => some ((p.1, p.2.1, s) :: r) | _, _ => none) = _
    rw [ih, h1]
theorem partsOf_inv : ∀ {xs : List (List D)} {l : List PartD}, partsOf xs = some l → xs = l.map partRow
  | [], l, h => by simp [partsOf] at h; subst h; rfl
  | x :: xs, l, h => by
    unfold partsOf at h
    split at h
    · rename_i e; simp at e
    · rename_i f t b r e
      simp only [List.cons.injEq] at e
      obtain ⟨rfl, rfl⟩ := e
      split at h
      · rename_i s r2 hs hr
        injection h with h; subst h
        rw [partsOf_inv hr, decB_inv hs]; rfl
      · simp at h
    · simp at h
def natPut (k : FuncId) (rt : List PartD → Int → List UInt8 → Bool) (pb : List PartD → Int → List UInt8 → List UInt8) : Callee := fun f args H =>
  if f = k then
    match args, H with
    | [.d (.list 3 xs), .d (.int .i64 n), .d (.str s)], [] => match partsOf xs with
      | some l => if l.length + s.length ≤ 1000000000 then (if rt l n s then (if (pb l n s).length ≤ 1000000 then some (.tup [.d (.list 1 (rB (pb l n s))), .d (.int .i64 0)], []) else none) else some (.tup [.d (.list 1 []), .d (.int .i64 1)], [])) else none
      | none => none
    | _, _ => none
  else none
theorem natPut_eq (k : FuncId) (rt : List PartD → Int → List UInt8 → Bool) (pb : List PartD → Int → List UInt8 → List UInt8) (l : List PartD) (n : Int) (s : List UInt8) (hsz : l.length + s.length ≤ 1000000000) :
    natPut k rt pb k [.d (.list 3 (l.map partRow)), .d (.int .i64 n), .d (.str s)] [] = if rt l n s then (if (pb l n s).length ≤ 1000000 then some (.tup [.d (.list 1 (rB (pb l n s))), .d (.int .i64 0)], []) else none) else some (.tup [.d (.list 1 []), .d (.int .i64 1)], []) := by
  simp only [natPut, if_true, partsOf_map]
  rw [if_pos hsz]
theorem dr_row8 {w' : World} {S : Sta} {base ty : Nat} {v' : Value} {l : List UInt8} (how : w'.ownsRow base ty 1 v' l.length (l.map fun b => Value.int .u8 (b.toNat : Int))) (hS : ∀ g, base ≤ g → g < w'.heap.size → S g) : DR w' S (.list 1 (rB l)) v' := by
  obtain ⟨_, hrow⟩ := how
  rcases hrow with ⟨rfl, h0⟩ | ⟨g, cap', cur, rfl, hg, hblk, hcap2, hmax, hsz, htk⟩
  · have : l = [] := List.eq_nil_of_length_eq_zero h0
    subst this
    exact .list 1 [] none 0 0 0 0 (fun _ => undef) rfl (Nat.le_refl _) (by simp) (by simp) (by simp) (by simp)
  · have hglt : g < w'.heap.size := (Array.getElem?_eq_some_iff.1 hblk).1
    have hcell2 : ∀ j, j < l.length → w'.cell? ⟨g, 0 + j, none⟩ = some (.int .u8 ((l.getD j 0).toNat : Int)) := fun j hj => by
      have h5 : (cur.toList.take (l.length * 1)).getD j undef = .int .u8 ((l.getD j 0).toNat : Int) := by
        rw [htk]; simp [List.getD_eq_getElem?_getD, hj]
      rw [List.getD_eq_getElem?_getD, List.getElem?_take, if_pos (by omega)] at h5
      have hjs : j < cur.size := by omega
      have h6 : cur[j]? = some (.int .u8 ((l.getD j 0).toNat : Int)) := by
        rw [Array.getElem?_toList, Array.getElem?_eq_getElem hjs] at h5
        rw [Array.getElem?_eq_getElem hjs]
        simpa using h5
      rw [Nat.zero_add, cell_at hblk hjs]
      simp only [Array.getD_eq_getD_getElem?, h6, Option.getD_some]
    refine .list 1 _ _ _ _ g 0 (fun j => .int .u8 ((l.getD j 0).toNat : Int)) (by rw [rB_len]) (by rw [rB_len]; exact hcap2) (fun _ => ⟨rfl, hS g hg hglt⟩) (fun j hj => ⟨hcell2 j (by rw [rB_len] at hj; omega), rfl⟩) (fun i hi => by
      rw [rB_len] at hi
      rw [rB_getD hi]; rfl) fun i hi j hj => ?_
    rw [rB_len] at hi
    obtain rfl : j = 0 := by omega
    have e2 : ((rB l).getD i []).getD 0 .nilp = .int .u8 ((l.getD i 0).toNat : Int) := by rw [rB_getD hi]; rfl
    rw [e2, Nat.mul_one, Nat.add_zero]
    exact .int _ _
theorem arr3 {c : Array Value} (hs : 3 = c.size) : c = #[c.getD 0 undef, c.getD 1 undef, c.getD 2 undef] := by
  apply Array.ext
  · simpa using hs.symm
  · intro i h1 h2
    have : i = 0 ∨ i = 1 ∨ i = 2 := by simp at h2; omega
    rcases this with rfl | rfl | rfl <;> simp [Array.getD, ← hs]
theorem natPut_snd {P : Program} {k ty : FuncId} {rt : List PartD → Int → List UInt8 → Bool} {pb : List PartD → Int → List UInt8 → List UInt8} (hb : HasBody P k)
    (h1 : ∀ (l : List PartD) (n : Int) (s : List UInt8) (v0 : Value) (w : World) (S : Sta) (ρ : Pos), Rel w S ρ [] → DR w S (.list 3 (l.map partRow)) v0 → l.length + s.length ≤ 1000000000 → rt l n s = true → (pb l n s).length ≤ 1000000 →
      Calls P k #[v0, .int .i64 n, .string ⟨s.toArray⟩] w fun e w' => ∃ v, e = .returned (.tuple #[v, .int .i64 0]) ∧ w'.ownsRow w.heap.size ty 1 v (pb l n s).length ((pb l n s).map fun b => Value.int .u8 (b.toNat : Int)) ∧ Below w.heap.size w w')
    (h0 : ∀ (l : List PartD) (n : Int) (s : List UInt8) (v0 : Value) (w : World) (S : Sta) (ρ : Pos), Rel w S ρ [] → DR w S (.list 3 (l.map partRow)) v0 → l.length + s.length ≤ 1000000000 → rt l n s = false →
      Calls P k #[v0, .int .i64 n, .string ⟨s.toArray⟩] w fun e w' => e = .returned (.tuple #[.slice none 0 0, .int .i64 1]) ∧ Below w.heap.size w w') : CallSnd P (natPut k rt pb) := by
  intro f args H r H' h
  unfold natPut at h
  split at h
  case isFalse => simp at h
  rename_i hf; subst hf
  split at h
  case h_2 => simp at h
  rename_i xs n s
  split at h
  case h_2 => simp at h
  rename_i l hl
  obtain rfl := partsOf_inv hl
  refine ⟨hb, fun w S ρ cargs hr hlen hv => ?_⟩
  have e0 := hv 0 (by simp)
  have e1 := hv 1 (by simp)
  have e2 := hv 2 (by simp)
  simp only [List.getD_cons_zero, List.getD_cons_succ] at e0 e1 e2
  rw [arr3 hlen]
  generalize cargs.getD 0 undef = v0 at e0
  generalize cargs.getD 1 undef = v1 at e1
  generalize cargs.getD 2 undef = v2 at e2
  obtain rfl := vr_int e1
  obtain rfl := vr_str e2
  split at h
  case isFalse => simp at h
  rename_i hsz
  split at h
  · rename_i hrt
    split at h
    case isFalse => simp at h
    rename_i hsm
    simp only [Option.some.injEq, Prod.mk.injEq] at h
    obtain ⟨rfl, rfl⟩ := h
    refine (h1 l n s v0 w S ρ hr e0.dr hsz hrt hsm).mono fun e w' ⟨v, q1, q2, q3⟩ => ⟨_, _, ρ, q1, evo_below_any hr q3, .tup _ _ rfl fun i hi => ?_⟩
    have : i = 0 ∨ i = 1 := by simp at hi; omega
    rcases this with rfl | rfl
    · exact .d _ _ (dr_row8 (by simpa using q2) fun g g1 g2 => .inr ⟨g1, g2⟩)
    · exact .d _ _ (.int ..)
  · rename_i hrt
    simp only [Option.some.injEq, Prod.mk.injEq] at h
    obtain ⟨rfl, rfl⟩ := h
    refine (h0 l n s v0 w S ρ hr e0.dr hsz (by simpa using hrt)).mono fun e w' ⟨q1, q3⟩ => ⟨_, _, ρ, q1, evo_below_any hr q3, .tup _ _ rfl fun i hi => ?_⟩
    have : i = 0 ∨ i = 1 := by simp at hi; omega
    rcases this with rfl | rfl
    · exact .d _ _ (.list 1 [] none 0 0 0 0 (fun _ => undef) rfl (Nat.le_refl _) (by simp) (by simp) (by simp) (by simp))
    · exact .d _ _ (.int ..)
end Go.Ev
