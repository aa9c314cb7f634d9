/- Natives: which number an error of a program's own holds (errors.As behind it), and bytes.Cut. Own work. -/
import Derived.Test.YtpibecljdooilaaDoorEvNatP
import Derived.Shelf.Bytes.SlCut
namespace Go.Ev
open Go Go.RowKit
set_option linter.unusedVariables false
set_option linter.unusedSimpArgs false
def fOf (t : TypeId) : AV → Option (Option Int)
  | .d .nili => some none
  | .d (.ifc t' (.agg [.int .i64 n])) => if t' = t then some (some n) else none
  | .ifc t' (.agg [.d (.int .i64 n)]) => if t' = t then some (some n) else none
  | .ifc t' (.d (.agg [.int .i64 n])) => if t' = t then some (some n) else none
  | _ => none
theorem fOf_inv {w : World} {S : Sta} {ρ : Pos} {t : TypeId} {x : AV} {v : Value} (hv : VR w S ρ x v) {r : Option Int} (h : fOf t x = some r) :
    (r = none ∧ v = .nilIface) ∨ ∃ n, r = some n ∧ v = .iface t (.agg #[.int .i64 n]) := by
  unfold fOf at h
  split at h
  · injection h with h; subst h
    cases hv.dr; exact .inl ⟨rfl, rfl⟩
  · split at h
    case isFalse => simp at h
    rename_i e; subst e
    injection h with h; subst h
    have hd := hv.dr
    cases hd with
    | ifc _ _ u hu =>
      cases hu with
      | agg cs vs hl ho hc =>
        have h0 := hc 0 (by simp)
        rw [arr1 (c := vs) (by simpa using hl)]
        generalize vs.getD 0 undef = u0 at h0
        cases h0
        exact .inr ⟨_, rfl, rfl⟩
  · split at h
    case isFalse => simp at h
    rename_i e; subst e
    injection h with h; subst h
    cases hv with
    | ifc _ _ u hu =>
      cases hu with
      | agg cs vs hl ho hc =>
        have h0 := hc 0 (by simp)
        rw [arr1 (c := vs) (by simpa using hl)]
        generalize vs.getD 0 undef = u0 at h0
        cases h0.dr
        exact .inr ⟨_, rfl, rfl⟩
  · split at h
    case isFalse => simp at h
    rename_i e; subst e
    injection h with h; subst h
    cases hv with
    | ifc _ _ u hu =>
      have hu := hu.dr
      cases hu with
      | agg cs vs hl ho hc =>
        have h0 := hc 0 (by simp)
        rw [arr1 (c := vs) (by simpa using hl)]
        generalize vs.getD 0 undef = u0 at h0
        cases h0
        exact .inr ⟨_, rfl, rfl⟩
  · simp at h
def natWhy (k : FuncId) (t : TypeId) : Callee := fun f args H =>
  if f = k then
    match args, H with
    | [x], [] => match fOf t x with
      | some r => some (.d (.int .i64 (r.getD 0)), [])
      | none => none
    | _, _ => none
  else none
theorem natWhy_snd {P : Program} {k : FuncId} {t : TypeId} (hb : HasBody P k)
    (h0 : ∀ (w : World) (S : Sta), Gl w S → Calls P k #[.nilIface] w fun e w' => e = .returned (.int .i64 0) ∧ Below w.heap.size w w')
    (h1 : ∀ (n : Int) (w : World) (S : Sta), Gl w S → Calls P k #[.iface t (.agg #[.int .i64 n])] w fun e w' => e = .returned (.int .i64 n) ∧ Below w.heap.size w w') : CallSnd P (natWhy k t) := by
  intro f args H r H' h
  unfold natWhy at h
  split at h
  case isFalse => simp at h
  rename_i hf; subst hf
  split at h
  case h_2 => simp at h
  rename_i x
  split at h
  case h_2 => simp at h
  rename_i r0 hr0
  simp only [Option.some.injEq, Prod.mk.injEq] at h
  obtain ⟨rfl, rfl⟩ := h
  refine ⟨hb, fun w S ρ cargs hr hlen hv => ?_⟩
  have e0 := hv 0 (by simp)
  simp only [List.getD_cons_zero] at e0
  rw [arr1 hlen]
  generalize cargs.getD 0 undef = v0 at e0
  rcases fOf_inv e0 hr0 with ⟨rfl, rfl⟩ | ⟨n, rfl, rfl⟩
  · exact (h0 w S hr.gl).mono fun e w' ⟨q1, q2⟩ => ⟨_, _, ρ, q1, evo_below_any hr q2, .d _ _ (.int ..)⟩
  · exact (h1 n w S hr.gl).mono fun e w' ⟨q1, q2⟩ => ⟨_, _, ρ, q1, evo_below_any hr q2, .d _ _ (.int ..)⟩

def cutD (s p : List UInt8) : List AV :=
  if 0 ≤ Lib.index s p then [.d (.list 1 (rB (s.take (Lib.index s p).toNat))), .d (.list 1 (rB (s.drop ((Lib.index s p).toNat + p.length)))), .d (.bool true)]
  else [.d (.list 1 (rB s)), .d (.list 1 []), .d (.bool false)]
def natCut (k : FuncId) : Callee := fun f args H =>
  if f = k then
    match args, H with
    | [.d (.list 1 xs), .d (.list 1 ys)], [] => match decB xs, decB ys with
      | some s, some p => if 2 ≤ p.length ∧ s.length + p.length ≤ 1000000000 then some (.tup (cutD s p), []) else none
      | _, _ => none
    | _, _ => none
  else none
theorem natCut_eq (k : FuncId) (s p : List UInt8) (h : 2 ≤ p.length ∧ s.length + p.length ≤ 1000000000) : natCut k k [.d (.list 1 (rB s)), .d (.list 1 (rB p))] [] = some (.tup (cutD s p), []) := by
  simp only [natCut, if_true, decB_rB, if_pos h]
def intsB (s : List UInt8) : List Int := s.map fun b => (b.toNat : Int)
theorem bytes_ints (s : List UInt8) : Lib.bytesOf (intsB s) = s := by
  unfold Lib.bytesOf intsB
  rw [List.map_map]
  conv => rhs; rw [← List.map_id s]
  apply List.map_congr_left
  intro b _
  simp
/-- Bytes as the shelf reads them. -/
theorem dr_bytes {w : World} {S : Sta} {s : List UInt8} {v : Value} (h : DR w S (.list 1 (rB s)) v) : ∃ a cap, v = .slice a s.length cap ∧ s.length ≤ cap ∧ Lib.BytesIn w a s.length (intsB s) ∧
    (0 < s.length → ∃ b o, a = some ⟨b, o, none⟩ ∧ S b ∧ ∀ i, i < s.length → w.cell? ⟨b, o + i, none⟩ = some (.int .u8 ((s.getD i 0).toNat : Int))) := by
  cases h with
  | list _ _ a n cap b o c e1 e2 e3 e4 e5 e6 =>
    rw [rB_len] at e1 e2 e3 e4 e5 e6
    subst e1
    have hcell : ∀ i, i < s.length → w.cell? ⟨b, o + i, none⟩ = some (.int .u8 ((s.getD i 0).toNat : Int)) := fun i hi => by
      have hx := e6 i hi 0 (by omega)
      rw [rB_getD hi] at hx
      have hc := (e4 (i * 1 + 0) (by omega)).1
      rw [Nat.mul_one, Nat.add_zero] at hc hx
      rw [hc]
      generalize c i = u at hx
      cases hx; rfl
    refine ⟨a, cap, rfl, e2, fun hn => ?_, fun hn => ⟨b, o, (e3 hn).1, (e3 hn).2, hcell⟩⟩
    refine ⟨b, o, (e3 hn).1, fun i hi => ?_⟩
    rw [hcell i hi]
    simp [intsB, List.getD_eq_getElem?_getD, hi]
/-- A piece of data of bytes, read as a slice of it. -/
theorem dr_piece {w : World} {S : Sta} {s : List UInt8} {b o cap i n : Nat} {a : Option Addr} (hS : 0 < n → S b) (ha : 0 < n → a = some ⟨b, o + i, none⟩) (hin : i + n ≤ s.length) (hcap : n ≤ cap)
    (hc : ∀ j, j < s.length → w.cell? ⟨b, o + j, none⟩ = some (.int .u8 ((s.getD j 0).toNat : Int))) : DR w S (.list 1 (rB ((s.drop i).take n))) (.slice a n cap) := by
  have hl : ((s.drop i).take n).length = n := by rw [List.length_take, List.length_drop]; omega
  refine .list 1 _ _ _ _ b (o + i) (fun j => .int .u8 ((s.getD (i + j) 0).toNat : Int)) (by rw [rB_len, hl]) (by rw [rB_len, hl]; exact hcap) (fun h => by rw [rB_len, hl] at h; exact ⟨ha h, hS h⟩) (fun j hj => ?_) (fun j hj => ?_) fun j hj q hq => ?_
  · rw [rB_len, hl, Nat.mul_one] at hj
    exact ⟨by rw [Nat.add_assoc]; exact hc _ (by omega), rfl⟩
  · rw [rB_len] at hj
    rw [rB_getD hj]; rfl
  · rw [rB_len, hl] at hj
    obtain rfl : q = 0 := by omega
    rw [rB_getD (by rw [hl]; exact hj)]
    have : ((s.drop i).take n).getD j 0 = s.getD (i + j) 0 := by
      simp [List.getD_eq_getElem?_getD, List.getElem?_take, hj, List.getElem?_drop]
    rw [this, Nat.mul_one, Nat.add_zero]
    exact .int ..
theorem natCut_snd {P : Program} {k : FuncId} (hb : HasBody P k)
    (h1 : ∀ (s p : List UInt8) (a1 a2 : Option Addr) (c1 c2 : Nat) (w : World) (S : Sta), Gl w S → s.length ≤ c1 → a1 ≠ none → s.length + p.length ≤ 1000000000 → Lib.BytesIn w a1 s.length (intsB s) → Lib.BytesIn w a2 p.length (intsB p) →
      Calls P k #[.slice a1 s.length c1, .slice a2 p.length c2] w fun e w' => e = .returned (Lib.cutV a1 s.length c1 p.length (Lib.index s p)) ∧ ∃ q, w' = w.drewN q)
    (h0 : ∀ (n c1 c2 : Nat) (a1 a2 : Option Addr) (w : World), 2 ≤ n → n ≤ 1000000000 → Calls P k #[.slice a1 0 c1, .slice a2 n c2] w fun e w' => e = .returned (Lib.cutV a1 0 c1 n (-1)) ∧ ∃ q, w' = w.drewN q) : CallSnd P (natCut k) := by
  intro f args H r H' h
  unfold natCut at h
  split at h
  case isFalse => simp at h
  rename_i hf; subst hf
  split at h
  case h_2 => simp at h
  rename_i xs ys
  split at h
  case h_2 => simp at h
  rename_i s p hs hp
  split at h
  case isFalse => simp at h
  rename_i hsz
  obtain ⟨hp2, hsz⟩ := hsz
  obtain rfl := decB_inv hs
  obtain rfl := decB_inv hp
  simp only [Option.some.injEq, Prod.mk.injEq] at h
  obtain ⟨rfl, rfl⟩ := h
  refine ⟨hb, fun w S ρ cargs hr hlen hv => ?_⟩
  have e0 := hv 0 (by simp)
  have e1 := hv 1 (by simp)
  simp only [List.getD_cons_zero, List.getD_cons_succ] at e0 e1
  rw [arr2 hlen]
  generalize cargs.getD 0 undef = v0 at e0
  generalize cargs.getD 1 undef = v1 at e1
  have hd0 := e0.dr
  obtain ⟨a1, c1, rfl, hc1, hb1, hd1⟩ := dr_bytes e0.dr
  obtain ⟨a2, c2, rfl, hc2, hb2, hd2⟩ := dr_bytes e1.dr
  have hK : Calls P f #[.slice a1 s.length c1, .slice a2 p.length c2] w fun e w' => e = .returned (Lib.cutV a1 s.length c1 p.length (Lib.index s p)) ∧ ∃ q, w' = w.drewN q := by
    rcases Nat.eq_zero_or_pos s.length with hz | hz
    · obtain rfl := List.eq_nil_of_length_eq_zero hz
      have hi : Lib.index [] p = -1 := Lib.index_long (by simp) (fun e => by subst e; simp at hp2)
      rw [hi]
      exact h0 p.length c1 c2 a1 a2 w hp2 (by omega)
    · obtain ⟨b, o, rfl, _, _⟩ := hd1 hz
      exact h1 s p _ a2 c1 c2 w S hr.gl hc1 (by simp) hsz hb1 hb2
  refine hK.mono fun e w' ⟨q1, q, q2⟩ => ?_
  subst q2
  have hbl : Below w.heap.size w (w.drewN q) := ⟨rfl, rfl, rfl, Nat.le_refl _, fun _ _ => rfl⟩
  refine ⟨_, _, ρ, q1, evo_below_any hr hbl, ?_⟩
  unfold Lib.cutV cutD
  by_cases hi : 0 ≤ Lib.index s p
  · rw [if_pos hi, if_pos hi]
    have hroom := Lib.index_room s p hi
    obtain ⟨j, hj⟩ : ∃ j : Nat, Lib.index s p = j := ⟨(Lib.index s p).toNat, by omega⟩
    rw [hj] at hroom ⊢
    rw [Int.toNat_natCast]
    obtain ⟨b, o, rfl, hS, hc⟩ := hd1 (by omega)
    refine .tup _ _ rfl fun i hi => ?_
    have : i = 0 ∨ i = 1 ∨ i = 2 := by simp at hi; omega
    rcases this with rfl | rfl | rfl
    · have := dr_piece (w := w.drewN q) (S := fun g => S g ∨ (w.heap.size ≤ g ∧ g < (w.drewN q).heap.size)) (s := s) (b := b) (o := o) (cap := c1) (i := 0) (n := j) (a := some ⟨b, o, none⟩) (fun _ => .inl hS) (fun _ => rfl) (by omega) (by omega) hc
      rw [List.drop_zero] at this
      exact .d _ _ this
    · have := dr_piece (w := w.drewN q) (S := fun g => S g ∨ (w.heap.size ≤ g ∧ g < (w.drewN q).heap.size)) (s := s) (b := b) (o := o) (cap := c1 - (j + p.length)) (i := j + p.length) (n := s.length - (j + p.length))
        (a := if c1 = j + p.length then some ⟨b, o, none⟩ else some ((⟨b, o, none⟩ : Addr).add (j + p.length))) (fun _ => .inl hS) (fun h => by rw [if_neg (by omega), addr_add]) (by omega) (by omega) hc
      rw [List.take_of_length_le (by rw [List.length_drop]; exact Nat.le_refl _)] at this
      exact .d _ _ this
    · exact .d _ _ (.bool _)
  · rw [if_neg hi, if_neg hi]
    refine .tup _ _ rfl fun i hi => ?_
    have : i = 0 ∨ i = 1 ∨ i = 2 := by simp at hi; omega
    rcases this with rfl | rfl | rfl
    · have hm : DR (w.drewN q) (fun g => S g ∨ (w.heap.size ≤ g ∧ g < (w.drewN q).heap.size)) (.list 1 (rB s)) (.slice a1 s.length c1) := DR.mono (w := w) (w' := w.drewN q) (S := S) (fun _ h => Or.inl h) (fun _ _ => rfl) hd0
      exact .d _ _ hm
    · exact .d _ _ (.list 1 [] none 0 0 0 0 (fun _ => undef) rfl (Nat.le_refl _) (by simp) (by simp) (by simp) (by simp))
    · exact .d _ _ (.bool _)
end Go.Ev
