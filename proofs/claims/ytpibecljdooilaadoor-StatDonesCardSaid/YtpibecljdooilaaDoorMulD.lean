/- multi.Put: the walk. Own work. Many parts as one body: the reference's, and Few. Own work. Many parts: Few, Type; the table with multi.Put in it (beside other natives: multi.why, bytes.Cut). Own work. -/
import Derived.Test.YtpibecljdooilaaDoorShBuf
import Derived.Test.YtpibecljdooilaaDoorMulA
import Derived.Lib.BufferKept
import Derived.Lib.BufferOld
import Derived.WalkKit
import Derived.BigCall
import Derived.Test.YtpibecljdooilaaDoorRdD
import Derived.Test.YtpibecljdooilaaDoorEvExt
namespace Go.Proofs.YtpibecljdooilaaDoor
open Go Go.Ev Go.RowKit Go.Shelf
set_option maxRecDepth 100000
set_option linter.unusedVariables false
set_option linter.unusedSimpArgs false
/-- The parts as they lie in a world, and stay while nothing below B turns. -/
structure PartsAt (B : Nat) (w : World) (v0 : Value) (l : List PartD) : Prop where
  ex : ∃ (b o cap : Nat) (bv : Nat → Value), v0 = .slice (some ⟨b, o, none⟩) l.length cap ∧ ∀ i (h : i < l.length), ∀ w', Below B w w' →
    w'.cell? ⟨b, o + i * 3, none⟩ = some (.int .i64 l[i].1) ∧ w'.cell? ⟨b, o + i * 3 + 1, none⟩ = some (.int .i64 l[i].2.1) ∧ w'.cell? ⟨b, o + i * 3 + 2, none⟩ = some (bv i) ∧
    (l[i].2.2 ≠ [] → ∃ a c, bv i = .slice (some a) l[i].2.2.length c ∧ a.block < B ∧ ∀ j v, (Lib.byteCells l[i].2.2)[j]? = some v → w'.cell? (a.add j) = some v)
theorem dr_int' {w : World} {S : Sta} {k : IntKind} {n : Int} {v : Value} (h : DR w S (.int k n) v) : v = .int k n := by cases h; rfl
theorem parts_at {w : World} {S : Sta} {ρ : Pos} (hr : Rel w S ρ []) {v0 : Value} {l : List PartD} (hne : l ≠ []) (hd : DR w S (.list 3 (l.map partRow)) v0) : PartsAt w.heap.size w v0 l := by
  cases hd with
  | list _ _ a n cap b o c e1 e2 e3 e4 e5 e6 =>
    rw [List.length_map] at e1 e2 e3 e4 e5 e6
    have hpos : 0 < l.length := List.length_pos_iff.2 hne
    obtain ⟨rfl, hS⟩ := e3 hpos
    subst e1
    have hb : b < w.heap.size := hr.slt _ hS
    refine ⟨b, o, cap, fun i => c (i * 3 + 2), rfl, fun i hi w' hw' => ?_⟩
    have hcell : ∀ k, k < l.length * 3 → w'.cell? ⟨b, o + k, none⟩ = some (c k) := fun k hk => (hw'.cell (p := ⟨b, o + k, none⟩) hb).trans (e4 k hk).1
    have hrow : ∀ j, j < 3 → DR w S ((partRow l[i]).getD j .nilp) (c (i * 3 + j)) := fun j hj => by
      have := e6 i hi j hj
      have e : (l.map partRow).getD i [] = partRow l[i] := by simp [List.getD_eq_getElem?_getD, hi]
      rwa [e] at this
    have h0 := dr_int' (hrow 0 (by omega))
    have h1 := dr_int' (hrow 1 (by omega))
    have h2 := hrow 2 (by omega)
    refine ⟨?_, ?_, ?_, fun hb2 => ?_⟩
    · rw [hcell _ (by omega)]; rw [Nat.add_zero] at h0; rw [h0]
    · rw [Nat.add_assoc, hcell _ (by omega), h1]
    · rw [Nat.add_assoc, hcell _ (by omega)]
    · have hl2 : 0 < l[i].2.2.length := List.length_pos_iff.2 hb2
      change DR w S (.list 1 (rB l[i].2.2)) _ at h2
      generalize hcv : c (i * 3 + 2) = cv at h2
      cases h2 with
      | list _ _ a' n' cap' b' o' c' f1 f2 f3 f4 f5 f6 =>
        rw [rB_len] at f1 f2 f3 f4 f5 f6
        obtain ⟨rfl, hS'⟩ := f3 hl2
        subst f1
        have hb' : b' < w.heap.size := hr.slt _ hS'
        refine ⟨⟨b', o', none⟩, _, hcv, hb', fun j v hj => ?_⟩
        have hjl : j < l[i].2.2.length := by
          have := List.getElem?_eq_some_iff.1 hj
          obtain ⟨h, _⟩ := this
          simpa [Lib.byteCells] using h
        have hx := f6 j hjl 0 (by omega)
        rw [rB_getD hjl] at hx
        have hx' := dr_int' hx
        have hc := (f4 (j * 1 + 0) (by omega)).1
        rw [Lib.addr_add, hw'.cell (p := ⟨b', o' + j, none⟩) hb']
        rw [Nat.mul_one, Nat.add_zero] at hc hx'
        rw [hc, hx']
        simp only [Lib.byteCells, List.getElem?_map] at hj
        rw [List.getElem?_eq_getElem hjl] at hj
        simpa [List.getD_eq_getElem?_getD, hjl] using hj
def crl : List UInt8 := [13, 10]
def headS (s : List UInt8) (n : Int) (p : PartD) : List UInt8 := [45, 45] ++ s ++ [13, 10] ++ [67, 111, 110, 116, 101, 110, 116, 45, 82, 97, 110, 103, 101, 58, 32] ++ cntS true p.1 p.2.1 n ++ [13, 10] ++ [13, 10]
def oneB (s : List UInt8) (n : Int) (p : PartD) : List UInt8 := headS s n p ++ p.2.2 ++ [13, 10]
def allBy (s : List UInt8) (n : Int) (l : List PartD) : List UInt8 := l.flatMap (oneB s n)
def lastS (s : List UInt8) : List UInt8 := [45, 45] ++ s ++ [45, 45] ++ [13, 10]
def putB (l : List PartD) (n : Int) (s : List UInt8) : List UInt8 := allBy s n l ++ lastS s
def putR (l : List PartD) (n : Int) (s : List UInt8) : Bool := isTok s && decide (s.length ≤ 40) && decide (RtP l n)
def idxV : Value → Nat
  | .int _ n => n.toNat
  | _ => 0
theorem vr_args1 {w : World} {S : Sta} {ρ : Pos} {a : AV} {v : Value} (h : VR w S ρ a v) : ∀ i, i < [a].length → VR w S ρ ([a].getD i .unk) ((#[v] : Array Value).getD i undef) := fun i hi => by
  have : i = 0 := by simp at hi; omega
  subst this; exact h
theorem vr_args2 {w : World} {S : Sta} {ρ : Pos} {a b : AV} {v u : Value} (h : VR w S ρ a v) (h2 : VR w S ρ b u) : ∀ i, i < [a, b].length → VR w S ρ ([a, b].getD i .unk) ((#[v, u] : Array Value).getD i undef) := fun i hi => by
  have : i = 0 ∨ i = 1 := by simp at hi; omega
  rcases this with rfl | rfl
  · exact h
  · exact h2
theorem may_c {s : List UInt8} {b : Bool} (hs : s.length ≤ 1000000000) (hb : (isTok s && decide (s.length ≤ 40)) = b) {w : World} {S : Sta} {ρ : Pos} (hr : Rel w S ρ []) :
    Calls Tryd.prog 33 #[.string ⟨s.toArray⟩] w fun e w' => e = .returned (.bool b) ∧ Below w.heap.size w w' := by
  have h := t_may s hs
  rw [hb] at h
  exact (calls_plain Ir.tab h hr rfl (vr_args1 (.d _ _ (.str s)))).mono fun e w' ⟨cv, S', ρ', h1, h2, h3⟩ => ⟨by rw [h1, vr_bool h3], h2⟩
theorem right_c {l : List PartD} {n : Int} {b : Bool} (hl : l.length ≤ 1000000000) (hb : decide (RtP l n) = b) {v0 : Value} {w : World} {S : Sta} {ρ : Pos} (hr : Rel w S ρ []) (hd : DR w S (.list 3 (l.map partRow)) v0) :
    Calls Tryd.prog 13 #[v0, .int .i64 n] w fun e w' => e = .returned (.bool b) ∧ Below w.heap.size w w' := by
  have h := t_mright l n hl
  rw [hb] at h
  exact (calls_plain Ir.tab h hr rfl (vr_args2 (.d _ _ hd) (.d _ _ (.int ..)))).mono fun e w' ⟨cv, S', ρ', h1, h2, h3⟩ => ⟨by rw [h1, vr_bool h3], h2⟩
theorem of_c {f t n : Int} {w : World} {S : Sta} {ρ : Pos} (hr : Rel w S ρ []) :
    Calls Tryd.prog 35 #[.agg #[.int .i64 f, .int .i64 t], .int .i64 n] w fun e w' => e = .returned (.string ⟨(cntS true f t n).toArray⟩) ∧ Below w.heap.size w w' := by
  refine (calls_plain Ir.tab (t_of f t n) hr rfl (vr_args2 (.agg _ _ rfl (fun i hi => ?_) (vr_args2 (.d _ _ (.int ..)) (.d _ _ (.int ..)))) (.d _ _ (.int ..)))).mono fun e w' ⟨cv, S', ρ', h1, h2, h3⟩ => ⟨by rw [h1, vr_str h3], h2⟩
  have : i = 0 ∨ i = 1 := by simp at hi; omega
  rcases this with rfl | rfl <;> rfl
theorem dr_below {w w' : World} {S : Sta} {ρ : Pos} {x : D} {v : Value} (hr : Rel w S ρ []) (hb : Below w.heap.size w w') (h : DR w S x v) : DR w' S x v :=
  h.mono (fun _ h => h) (fun g hg => hb.block g (hr.slt g hg))
theorem fresh_buf (w w2 : World) (h : w.heap.size ≤ w2.heap.size) : Lib.IsBuffer 78 5 w.heap.size w2.heap.size [] (w2.alloc (.cells #[.slice none 0 0, .int .i64 0, .int .i8 0] 78)) :=
  ⟨h, .slice none 0 0, 0, heap_alloc_new w2 _, World.ownsRow_nil _ _ _ _, by simp [Value.ownBlock]⟩
theorem allP_get {n : Int} : ∀ {l : List PartD}, allP n l = true → ∀ {i : Nat} (h : i < l.length), pOk n l[i]
  | [], _, i, h => by simp at h
  | p :: l, ha, i, h => by
    unfold allP at ha
    split at ha
    · rename_i hp
      cases i with
      | zero => exact hp
      | succ i => exact allP_get ha (by simpa using h)
    · simp at ha
theorem bc_len (b : List UInt8) : (Lib.byteCells b).length = b.length := by simp [Lib.byteCells]
theorem bc_app (a b : List UInt8) : Lib.byteCells (a ++ b) = Lib.byteCells a ++ Lib.byteCells b := by simp [Lib.byteCells]
theorem bc_one (b : List UInt8) : ∀ v ∈ Lib.byteCells b, v.oneCell' = true := Lib.byteCells_one _
theorem allBy_succ (s : List UInt8) (n : Int) (l : List PartD) {i : Nat} (h : i < l.length) : allBy s n (l.take (i + 1)) = allBy s n (l.take i) ++ oneB s n l[i] := by
  unfold allBy
  rw [List.take_succ_eq_append_getElem h, List.flatMap_append]; simp
theorem allBy_le (s : List UInt8) (n : Int) (l : List PartD) (i : Nat) : (allBy s n (l.take i)).length ≤ (putB l n s).length := by
  have h : allBy s n l = allBy s n (l.take i) ++ allBy s n (l.drop i) := by
    unfold allBy; rw [← List.flatMap_append, List.take_append_drop]
  unfold putB
  rw [h]; simp only [List.length_append]; omega
theorem head_eq (s : List UInt8) (n : Int) (p : PartD) : ((⟨#[45, 45]⟩ : ByteArray) ++ ⟨s.toArray⟩ ++ ⟨#[13, 10]⟩ ++ ⟨#[67, 111, 110, 116, 101, 110, 116, 45, 82, 97, 110, 103, 101, 58, 32]⟩ ++ ⟨(cntS true p.1 p.2.1 n).toArray⟩ ++ ⟨#[13, 10]⟩ ++ ⟨#[13, 10]⟩) = (⟨(headS s n p).toArray⟩ : ByteArray) := by
  apply ByteArray.ext
  simp [headS, ByteArray.data_append]
theorem last_eq (s : List UInt8) : ((⟨#[45, 45]⟩ : ByteArray) ++ ⟨s.toArray⟩ ++ ⟨#[45, 45]⟩ ++ ⟨#[13, 10]⟩) = (⟨(lastS s).toArray⟩ : ByteArray) := by
  apply ByteArray.ext
  simp [lastS, ByteArray.data_append]
theorem crl_eq : (⟨#[13, 10]⟩ : ByteArray) = (⟨crl.toArray⟩ : ByteArray) := rfl
theorem ws_c {B b : Nat} {bs cs : List UInt8} {w : World} (h : Lib.IsBuffer 78 5 B b (Lib.byteCells bs) w) (hB : B ≤ w.heap.size) (hl : bs.length + cs.length ≤ 1000000) {x : ByteArray} (hx : x = ⟨cs.toArray⟩) :
    Calls Tryd.prog 34 #[.pointer (some ⟨b, 0, none⟩), .string x] w fun e w' => e = .returned (.tuple #[.int .i64 cs.length, .nilIface]) ∧ Lib.IsBuffer 78 5 B b (Lib.byteCells (bs ++ cs)) w' ∧ Below B w w' ∧ Lib.OthersKept 5 (some b) w w' := by
  subst hx
  refine (Tryd.Buffer_WriteString_k B b _ ⟨cs.toArray⟩ w h hB (bc_one _) (by rw [bc_len]; show bs.length + cs.toArray.size ≤ _; simp; omega)).mono fun e w' ⟨h1, h2, h3, h4⟩ => ⟨h1, ?_, h3, h4⟩
  rw [bc_app]; exact h2
theorem wr_c {B b : Nat} {bs cs : List UInt8} {a : Addr} {c : Nat} {w : World} (h : Lib.IsBuffer 78 5 B b (Lib.byteCells bs) w) (hB : B ≤ w.heap.size) (hl : bs.length + cs.length ≤ 1000000) (haB : a.block < B)
    (hsrc : ∀ j v, (Lib.byteCells cs)[j]? = some v → w.cell? (a.add j) = some v) :
    Calls Tryd.prog 36 #[.pointer (some ⟨b, 0, none⟩), .slice (some a) cs.length c] w fun e w' => e = .returned (.tuple #[.int .i64 cs.length, .nilIface]) ∧ Lib.IsBuffer 78 5 B b (Lib.byteCells (bs ++ cs)) w' ∧ Below B w w' ∧ Lib.OthersKept 5 (some b) w w' := by
  refine (Tryd.Buffer_Write_k B b _ _ a cs.length c w h hB (bc_one _) (bc_len _) haB hsrc (bc_one _) (by rw [bc_len]; omega)).mono fun e w' ⟨h1, h2, h3, h4⟩ => ⟨h1, ?_, h3, h4⟩
  rw [bc_app]; exact h2
theorem below_up {B : Nat} {w a b : World} (h : Below B w a) (hb : Below a.heap.size a b) (hB : B ≤ a.heap.size) : Below B w b :=
  h.trans ⟨hb.os, hb.tape, hb.output, hb.size, fun k hk => hb.block k (Nat.lt_of_lt_of_le hk hB)⟩
theorem box_cells {w : World} {g : Nat} {f t : Int} {v : Value} (h : w.heap[g]? = some (.cells #[.int .i64 f, .int .i64 t, v] 54 (0, 0))) : w.cell? ⟨g, 2, none⟩ = some v := by
  rw [cell_at h (by simp)]; rfl
set_option maxHeartbeats 4000000 in
theorem put1 (l : List PartD) (n : Int) (s : List UInt8) (v0 : Value) (w : World) (S : Sta) (ρ : Pos) (hr : Rel w S ρ []) (hd : DR w S (.list 3 (l.map partRow)) v0) (hrt : putR l n s = true) (hlim : (putB l n s).length ≤ 1000000) :
    Calls Tryd.prog 11 #[v0, .int .i64 n, .string ⟨s.toArray⟩] w fun e w' => ∃ v, e = .returned (.tuple #[v, .int .i64 0]) ∧ w'.ownsRow w.heap.size 5 1 v (putB l n s).length ((putB l n s).map fun b => Value.int .u8 (b.toNat : Int)) ∧ Below w.heap.size w w' := by
  unfold putR at hrt
  simp only [Bool.and_eq_true, decide_eq_true_eq] at hrt
  obtain ⟨⟨ht1, ht2⟩, hR⟩ := hrt
  have hmay : (isTok s && decide (s.length ≤ 40)) = true := by simp [ht1, ht2]
  have hne : l ≠ [] := fun e => by have := hR.1.1; rw [e] at this; simp at this
  have hl16 := hR.1.2
  have hc1 := @may_c s true (by omega) hmay
  have hc2 := @right_c l n true (by omega) (decide_eq_true hR) v0
  have hpa := parts_at hr hne hd
  obtain ⟨b0, o0, cap, bv, hv0, hP⟩ := hpa.ex
  subst hv0
  have HP : Aside (∀ i (h : i < l.length), ∀ w', Below w.heap.size w w' →
    w'.cell? ⟨b0, o0 + i * 3, none⟩ = some (.int .i64 l[i].1) ∧ w'.cell? ⟨b0, o0 + i * 3 + 1, none⟩ = some (.int .i64 l[i].2.1) ∧ w'.cell? ⟨b0, o0 + i * 3 + 2, none⟩ = some (bv i) ∧
    (l[i].2.2 ≠ [] → ∃ a c, bv i = .slice (some a) l[i].2.2.length c ∧ a.block < w.heap.size ∧ ∀ j v, (Lib.byteCells l[i].2.2)[j]? = some v → w'.cell? (a.add j) = some v)) := hP
  clear hP hmay
  go_enter Tryd.func11, Tryd.ntmps11
  go_wp2_with (first
    | (go_at_call 33; refine (hc1 hr).mono ?_; rintro e w1 ⟨rfl, hb1⟩)
    | (go_at_call 13; refine (hc2 (rel_below hr hb1) (dr_below hr hb1 hd)).mono ?_; rintro e w2 ⟨rfl, hb2⟩))
  have hB2 : Below w.heap.size w w2 := hb1.trans ⟨hb2.os, hb2.tape, hb2.output, hb2.size, fun k hk => hb2.block k (Nat.lt_of_lt_of_le hk hb1.size)⟩
  have hle2 := hB2.size
  have hI0 := fresh_buf w w2 hle2
  have hA0 := hB2.alloc hle2 (.cells #[.slice none 0 0, .int .i64 0, .int .i8 0] 78)
  clear hc1 hc2
  go_loopw [22] (fun v wr => ∃ i : Nat, i ≤ l.length ∧ v = .int .i64 i ∧ Lib.IsBuffer 78 5 w.heap.size w2.heap.size (Lib.byteCells (allBy s n (l.take i))) wr ∧ Below w.heap.size w wr)
    (fun v _ => l.length - idxV v)
  case atStart => exact ⟨0, Nat.zero_le _, rfl, hI0, hA0⟩
  case round =>
    obtain ⟨i, hi, rfl, hI, hbw⟩ := hrel
    clear hI0 hA0
    by_cases hlt : i < l.length
    · obtain ⟨p0, p1, p2, p3⟩ := HP.out i hlt _ hbw
      have hpk := allP_get hR.2.2 hlt
      have hbne : l[i].2.2 ≠ [] := fun e => by
        have h1 := hpk.1; have h2 := hpk.2.2
        unfold RP at h1
        rw [e] at h2; simp at h2; omega
      obtain ⟨ba, bc, hbv, hab, hsrc⟩ := p3 hbne
      rw [hbv] at p2
      clear p3
      have hofc := fun w' (hb : Below w.heap.size w w') => @of_c l[i].1 l[i].2.1 n w' S ρ (rel_below hr hb)
      have HS : Aside (∀ j v, (Lib.byteCells l[i].2.2)[j]? = some v → wr.cell? (ba.add j) = some v) := hsrc
      clear hsrc
      have hcl := cntS_len true l[i].1 l[i].2.1 n
      have hIlt := hI.lt
      have hle := hbw.size
      have hL1 := allBy_le s n l (i + 1)
      rw [allBy_succ s n l hlt] at hL1
      have hL2 : (allBy s n (l.take i) ++ oneB s n l[i]).length = (allBy s n (l.take i)).length + (headS s n l[i]).length + l[i].2.2.length + 2 := by simp [oneB]; omega
      have hL : (allBy s n (l.take i)).length + (headS s n l[i]).length + l[i].2.2.length + 2 ≤ 1000000 := by omega
      clear hL1 hL2
      have hbne2 : some wr.heap.size ≠ some w2.heap.size := fun e => by have := Option.some.inj e; omega
      have hsrc0 : ∀ w', Below w.heap.size wr w' → ∀ j v, (Lib.byteCells l[i].2.2)[j]? = some v → w'.cell? (ba.add j) = some v := fun w' hb j v hj => by
        have h1 := HS.out j v hj
        have : (ba.add j).block = ba.block := by unfold Addr.add; split <;> rfl
        exact (hb.cell (p := ba.add j) (by rw [this]; exact hab)).trans h1
      have HS2 : Aside (∀ w', Below w.heap.size wr w' → ∀ j v, (Lib.byteCells l[i].2.2)[j]? = some v → w'.cell? (ba.add j) = some v) := hsrc0
      clear hsrc0 HS
      have hhd := head_eq s n l[i]
      have HHd : Aside (_ = _) := hhd
      clear hhd
      have hq : (headS s n l[i]).length = 4 + s.length + 15 + (cntS true l[i].1 l[i].2.1 n).length + 4 := by simp [headS]; omega
      go_wp2_with (first
        | (go_at_call 35; refine (hofc _ (hbw.alloc hbw.size _)).mono ?_; rintro e w3 ⟨rfl, hb3⟩
           have hB3 := below_up (hbw.alloc hle _) hb3 (by simp; omega)
           have hI3 := (hI.alloc _).old hb3
           have hx3 := (hb3.block wr.heap.size (by simp)).trans (heap_alloc_new wr _)
           have hBr3 := below_up ((Below.refl w.heap.size wr).alloc hle _) hb3 (by simp; omega)
           clear hI)
        | (go_at_call 34; refine (ws_c hI3 hB3.size (by omega) HHd.out).mono ?_; rintro e w4 ⟨rfl, hI4, hb4, hk4⟩
           have hx4 := hk4 _ _ hx3 hbne2 (fun c fz e => by cases e)
           have hB4 := hB3.trans hb4
           have hBr4 := hBr3.trans hb4
           have hy4 := box_cells hx4
           clear hI3 hx3 hx4 hb3 hb4 hk4)
        | (go_at_call 36; refine (wr_c hI4 hB4.size (by rw [List.length_append]; omega) hab (HS2.out _ hBr4)).mono ?_; rintro e w5 ⟨rfl, hI5, hb5, hk5⟩
           have hB5 := hB4.trans hb5
           clear hI4 hb5 hk5 hy4)
        | (go_at_call 34; refine (ws_c hI5 hB5.size (by rw [List.length_append, List.length_append]; simp [crl]; omega) crl_eq).mono ?_; rintro e w6 ⟨rfl, hI6, hb6, hk6⟩
           have hB6 := hB5.trans hb6
           clear hI5 hb6 hk6))
      refine ⟨⟨i + 1, by omega, rfl, ?_, hB6⟩, ?_⟩
      · rw [allBy_succ s n l hlt]
        have e : allBy s n (l.take i) ++ oneB s n l[i] = allBy s n (l.take i) ++ headS s n l[i] ++ l[i].2.2 ++ crl := by simp [oneB, crl]
        rw [e]; exact hI6
      · simp only [idxV]; omega
    · have hil : i = l.length := by omega
      subst hil
      rw [List.take_length] at hI
      have hlen : (allBy s n l).length + (lastS s).length ≤ 1000000 := by unfold putB at hlim; rw [List.length_append] at hlim; exact hlim
      have hla := last_eq s
      have HL : Aside (_ = _) := hla
      clear hla
      go_wp2_with (first
        | (go_at_call 34; refine (ws_c hI hbw.size hlen HL.out).mono ?_; rintro e w4 ⟨rfl, hI4, hb4, hk4⟩)
        | (go_at_call 37; refine (Tryd.Buffer_Bytes w.heap.size w2.heap.size _ w4 hI4).mono ?_; rintro e w5 ⟨v, rfl, hown, nn, rfl⟩))
      refine bodyPost_ret (v := .tuple #[v, .int .i64 0]) (by simp [results, Tryd.results11, go_sem]) rfl ?_
      refine ⟨_, rfl, ?_, (hbw.trans hb4).trans ⟨rfl, rfl, rfl, Nat.le_refl _, fun _ _ => rfl⟩⟩
      rw [bc_len] at hown
      exact hown
set_option maxHeartbeats 4000000 in
theorem put0 (l : List PartD) (n : Int) (s : List UInt8) (v0 : Value) (w : World) (S : Sta) (ρ : Pos) (hr : Rel w S ρ []) (hd : DR w S (.list 3 (l.map partRow)) v0) (hsz : l.length + s.length ≤ 1000000000) (hrt : putR l n s = false) :
    Calls Tryd.prog 11 #[v0, .int .i64 n, .string ⟨s.toArray⟩] w fun e w' => e = .returned (.tuple #[.slice none 0 0, .int .i64 1]) ∧ Below w.heap.size w w' := by
  unfold putR at hrt
  cases hm : (isTok s && decide (s.length ≤ 40))
  · have hc1 := @may_c s false (by omega) hm
    clear hrt
    go_enter Tryd.func11, Tryd.ntmps11
    go_wp2_with (first
      | (go_at_call 33; refine (hc1 hr).mono ?_; rintro e w1 ⟨rfl, hb1⟩))
    exact bodyPost_ret (v := .tuple #[.slice none 0 0, .int .i64 1]) (by simp [results, Tryd.results11, go_sem]) rfl ⟨rfl, hb1⟩
  · rw [hm, Bool.true_and] at hrt
    have hc1 := @may_c s true (by omega) hm
    have hc2 := @right_c l n false (by omega) hrt v0
    clear hrt hm
    go_enter Tryd.func11, Tryd.ntmps11
    go_wp2_with (first
      | (go_at_call 33; refine (hc1 hr).mono ?_; rintro e w1 ⟨rfl, hb1⟩)
      | (go_at_call 13; refine (hc2 (rel_below hr hb1) (dr_below hr hb1 hd)).mono ?_; rintro e w2 ⟨rfl, hb2⟩))
    exact bodyPost_ret (v := .tuple #[.slice none 0 0, .int .i64 1]) (by simp [results, Tryd.results11, go_sem]) rfl ⟨rfl, below_up hb1 hb2 hb1.size⟩
theorem putSnd : CallSnd Tryd.prog (natPut 11 putR putB) := natPut_snd (ty := 5) ⟨_, Tryd.func11, by kernel_rfl, of_decide_eq_true (by kernel_rfl)⟩
  (fun l n s v0 w S ρ hr hd _ h1 h2 => put1 l n s v0 w S ρ hr hd h1 h2) (fun l n s v0 w S ρ hr hd hsz h1 => put0 l n s v0 w S ρ hr hd hsz h1)
end Go.Proofs.YtpibecljdooilaaDoor
namespace Go.Proofs.YtpibecljdooilaaDoor
open Go Go.Ev Go.Proofs.YtpibecljdooilaaDoor.Ir
set_option maxRecDepth 100000
set_option maxHeartbeats 4000000
set_option linter.unusedSimpArgs false
set_option linter.unusedVariables false
theorem rB_str (b : List UInt8) : (b.map fun c => [D.int .u8 c.toNat]) = rB b := rfl
theorem rB_crl : [[D.int .u8 13], [D.int .u8 10]] = rB [13, 10] := rfl
theorem lp_multi (l : List PartD) (n : Int) (s : List UInt8) (hs : s.length ≤ 40) (hl : l.length ≤ 16) (hp : allP n l = true) (k : Ex → St → Option (AV × Heap)) (i : Nat) (hi : i ≤ l.length) (out : List UInt8) (hO : out.length + (allBy s n (l.drop i)).length ≤ 1000000) :
    (bnd (evC (call ir) (loop ir) lp12_0 (st12_0 0 (dI n) (dS s) (.own 0 1 0 out.length false) (vL l) (dI l.length) (dI i) [.arr 1 (rB out)])) (lpC (call ir) (loop ir) [1, 2, 8, 26, 27, 28] lp12_0 k)) =
      k (.exit 0) (clean [2, 8] (st12_0 0 .unk (dS s) (.own 0 1 0 (out ++ allBy s n (l.drop i)).length false) .unk .unk .unk [.arr 1 (rB (out ++ allBy s n (l.drop i)))])) := by
  by_cases h : i = l.length
  · have hx : ¬ (i : Int) < l.length := by omega
    rw [h] at hx
    rw [h, List.drop_length]
    simp only [allBy, List.flatMap_nil, List.append_nil]
    simp (maxSteps := 2000000) (disch := omega) only [go_sem, doCall, doCallQ, doCallP, Nat.reduceAdd, Nat.reduceMul, Nat.reduceSub, Nat.reduceDiv, Nat.reduceMod, Nat.reduceLT, Nat.reduceLeDiff, Nat.reduceEqDiff, Nat.reduceBEq, Nat.reduceBNe, Int.reduceToNat, Int.reduceLT, Int.reduceLE, Int.reduceEq, Int.reduceNe, Int.reduceAdd, Int.reduceSub, Int.reduceMul, Int.reduceNeg, u12_0, lb12_0, hx]
  · have hlt : (i : Int) < l.length := by omega
    have hi' : i < l.length := by omega
    have hw := wr_succ (i := i) (by omega)
    have hg := getP l hi'
    have hlm : (l.map partRow).length = l.length := List.length_map ..
    have h1 := t_rcprint true l[i].1 l[i].2.1 n
    have hcl := cntS_len true l[i].1 l[i].2.1 n
    have e : allBy s n (l.drop i) = headS s n l[i] ++ l[i].2.2 ++ [13, 10] ++ allBy s n (l.drop (i + 1)) := by
      unfold allBy; rw [List.drop_eq_getElem_cons hi', List.flatMap_cons]; simp [oneB]
    rw [e] at hO
    have hO2 : out.length + (4 + s.length + 15 + (cntS true l[i].1 l[i].2.1 n).length + 4) + l[i].2.2.length + 2 + (allBy s n (l.drop (i + 1))).length ≤ 1000000 := by simp [headS] at hO; omega
    have ih := lp_multi l n s hs hl hp k (i + 1) (by omega) (out ++ headS s n l[i] ++ l[i].2.2 ++ [13, 10]) (by simp [headS]; omega)
    have e2 : out ++ (headS s n l[i] ++ l[i].2.2 ++ [13, 10] ++ allBy s n (l.drop (i + 1))) = (out ++ headS s n l[i] ++ l[i].2.2 ++ [13, 10]) ++ allBy s n (l.drop (i + 1)) := by simp
    rw [e, e2]
    have hrow : rB out ++ [D.int .u8 ((UInt8.toNat 45 : Nat) : Int)] :: [D.int .u8 ((UInt8.toNat 45 : Nat) : Int)] :: List.map (fun b : UInt8 => [D.int .u8 (b.toNat : Int)]) (s ++ [13, 10, 67, 111, 110, 116, 101, 110, 116, 45, 82, 97, 110, 103, 101, 58, 32] ++ cntS true l[i].1 l[i].2.1 n ++ [13, 10, 13, 10]) ++ rB l[i].2.2 ++ [[D.int .u8 13], [D.int .u8 10]] = rB (out ++ headS s n l[i] ++ l[i].2.2 ++ [13, 10]) := by
      simp [rB, headS]
    have hlen : out.length + (s.length + 17 + (cntS true l[i].1 l[i].2.1 n).length + 4 + 1 + 1) + l[i].2.2.length + 2 = (out ++ headS s n l[i] ++ l[i].2.2 ++ [13, 10]).length := by
      simp [headS]; omega
    generalize out ++ headS s n l[i] ++ l[i].2.2 ++ [13, 10] = Y at ih hrow hlen ⊢
    simp only [List.length_append] at ih
    simp (maxSteps := 2000000) (disch := omega) only [go_sem, doCall, doCallQ, doCallP, Nat.reduceAdd, Nat.reduceMul, Nat.reduceSub, Nat.reduceDiv, Nat.reduceMod, Nat.reduceLT, Nat.reduceLeDiff, Nat.reduceEqDiff, Nat.reduceBEq, Nat.reduceBNe, Int.reduceToNat, Int.reduceLT, Int.reduceLE, Int.reduceEq, Int.reduceNe, Int.reduceAdd, Int.reduceSub, Int.reduceMul, Int.reduceNeg, u12_0, lb12_0, hlt, hi', hw, hg, hlm, h1, rB_len, List.length_append, List.length_cons, List.length_nil, Nat.zero_add, false_and, if_false, Int.natCast_nonneg, Int.toNat_natCast, Option.getD_some, Option.getD_none, List.drop_zero, Nat.sub_zero, Nat.zero_le, true_and, and_true, Nat.le_refl, chk_of]
    rw [loop_step1]; simp (maxSteps := 2000000) only [go_sem, doCall, doCallQ, doCallP, Nat.reduceAdd, Nat.reduceMul, Nat.reduceSub, Nat.reduceDiv, Nat.reduceMod, Nat.reduceLT, Nat.reduceLeDiff, Nat.reduceEqDiff, Nat.reduceBEq, Nat.reduceBNe, Int.reduceToNat, Int.reduceLT, Int.reduceLE, Int.reduceEq, Int.reduceNe, Int.reduceAdd, Int.reduceSub, Int.reduceMul, Int.reduceNeg]
    rw [hrow, hlen]
    exact ih
termination_by l.length - i
theorem putB_len (l : List PartD) (n : Int) (s : List UInt8) : (putB l n s).length = (allBy s n l).length + (s.length + 6) := by simp [putB, lastS]
theorem t_multi (l : List PartD) (n : Int) (s : List UInt8) (hl : l.length ≤ 1000000000) (hs : s.length ≤ 1000000000) (hp : (putB l n s).length ≤ 1000000) :
    call ir 12 [vL l, dI n, dS s] [] = if putR l n s then some (.tup [.own 0 1 0 (putB l n s).length false, dT true], [.arr 1 (rB (putB l n s))]) else some (.tup [.own 0 1 0 0 false, dT false], [.arr 1 []]) := by
  rw [call_eq (fn := ir12) rfl, evF_bnd]
  have hlm : (l.map partRow).length = l.length := List.length_map ..
  have h1 := t_rtoken s hs
  have h2 := t_mrparts l n hl
  unfold putR
  cases ht : isTok s
  · rw [ht] at h1
    rw [Bool.false_and, Bool.false_and]
    simp (maxSteps := 2000000) (disch := omega) only [go_sem, doCall, doCallQ, doCallP, Nat.reduceAdd, Nat.reduceMul, Nat.reduceSub, Nat.reduceDiv, Nat.reduceMod, Nat.reduceLT, Nat.reduceLeDiff, Nat.reduceEqDiff, Nat.reduceBEq, Nat.reduceBNe, Int.reduceToNat, Int.reduceLT, Int.reduceLE, Int.reduceEq, Int.reduceNe, Int.reduceAdd, Int.reduceSub, Int.reduceMul, Int.reduceNeg, bd12, h1, chk_of]
  · rw [ht] at h1
    rw [Bool.true_and]
    by_cases h3 : s.length ≤ 40
    · have h3' := eq_false (show ¬ (40 : Int) < s.length by omega)
      rw [decide_eq_true h3, Bool.true_and]
      by_cases h4 : RtP l n
      · rw [decide_eq_true h4] at h2 ⊢
        simp (maxSteps := 2000000) (disch := omega) only [go_sem, doCall, doCallQ, doCallP, Nat.reduceAdd, Nat.reduceMul, Nat.reduceSub, Nat.reduceDiv, Nat.reduceMod, Nat.reduceLT, Nat.reduceLeDiff, Nat.reduceEqDiff, Nat.reduceBEq, Nat.reduceBNe, Int.reduceToNat, Int.reduceLT, Int.reduceLE, Int.reduceEq, Int.reduceNe, Int.reduceAdd, Int.reduceSub, Int.reduceMul, Int.reduceNeg, bd12, h1, h2, h3', hlm, chk_of]
        rw [loop_step1]; simp (maxSteps := 2000000) only [go_sem, doCall, doCallQ, doCallP, Nat.reduceAdd, Nat.reduceMul, Nat.reduceSub, Nat.reduceDiv, Nat.reduceMod, Nat.reduceLT, Nat.reduceLeDiff, Nat.reduceEqDiff, Nat.reduceBEq, Nat.reduceBNe, Int.reduceToNat, Int.reduceLT, Int.reduceLE, Int.reduceEq, Int.reduceNe, Int.reduceAdd, Int.reduceSub, Int.reduceMul, Int.reduceNeg]
        have hx := putB_len l n s
        refine (lp_multi l n s h3 h4.1.2 h4.2.2 _ 0 (Nat.zero_le _) [] (by rw [List.drop_zero]; simp; omega)).trans ?_
        rw [List.drop_zero, List.nil_append]
        simp (maxSteps := 2000000) (disch := omega) only [go_sem, doCall, doCallQ, doCallP, Nat.reduceAdd, Nat.reduceMul, Nat.reduceSub, Nat.reduceDiv, Nat.reduceMod, Nat.reduceLT, Nat.reduceLeDiff, Nat.reduceEqDiff, Nat.reduceBEq, Nat.reduceBNe, Int.reduceToNat, Int.reduceLT, Int.reduceLE, Int.reduceEq, Int.reduceNe, Int.reduceAdd, Int.reduceSub, Int.reduceMul, Int.reduceNeg, rB_len, List.length_append, List.length_cons, List.length_nil, Nat.zero_add, chk_of]
        have e1 : rB (allBy s n l) ++ [D.int .u8 ((UInt8.toNat 45 : Nat) : Int)] :: [D.int .u8 ((UInt8.toNat 45 : Nat) : Int)] :: List.map (fun b : UInt8 => [D.int .u8 (b.toNat : Int)]) (s ++ [45, 45, 13, 10]) = rB (putB l n s) := by simp [rB, putB, lastS]
        rw [e1, show (allBy s n l).length + (s.length + 4 + 1 + 1) = (putB l n s).length by omega]
      · rw [decide_eq_false h4] at h2 ⊢
        simp (maxSteps := 2000000) (disch := omega) only [go_sem, doCall, doCallQ, doCallP, Nat.reduceAdd, Nat.reduceMul, Nat.reduceSub, Nat.reduceDiv, Nat.reduceMod, Nat.reduceLT, Nat.reduceLeDiff, Nat.reduceEqDiff, Nat.reduceBEq, Nat.reduceBNe, Int.reduceToNat, Int.reduceLT, Int.reduceLE, Int.reduceEq, Int.reduceNe, Int.reduceAdd, Int.reduceSub, Int.reduceMul, Int.reduceNeg, bd12, h1, h2, h3', chk_of]
    · have h3' := eq_true (show (40 : Int) < s.length by omega)
      rw [decide_eq_false h3, Bool.false_and]
      simp (maxSteps := 2000000) (disch := omega) only [go_sem, doCall, doCallQ, doCallP, Nat.reduceAdd, Nat.reduceMul, Nat.reduceSub, Nat.reduceDiv, Nat.reduceMod, Nat.reduceLT, Nat.reduceLeDiff, Nat.reduceEqDiff, Nat.reduceBEq, Nat.reduceBNe, Int.reduceToNat, Int.reduceLT, Int.reduceLE, Int.reduceEq, Int.reduceNe, Int.reduceAdd, Int.reduceSub, Int.reduceMul, Int.reduceNeg, bd12, h1, h3', chk_of]
end Go.Proofs.YtpibecljdooilaaDoor
namespace Go.Proofs.YtpibecljdooilaaDoor
open Go Go.Ev Go.Proofs.YtpibecljdooilaaDoor.Ir
set_option maxRecDepth 100000
set_option maxHeartbeats 4000000
set_option linter.unusedSimpArgs false
set_option linter.unusedVariables false
def sumB (l : List PartD) : Nat := (l.map fun p => p.2.2.length).sum
theorem sumB_drop {l : List PartD} {i : Nat} (h : i < l.length) : sumB (l.drop i) = l[i].2.2.length + sumB (l.drop (i + 1)) := by
  unfold sumB; rw [List.drop_eq_getElem_cons h, List.map_cons, List.sum_cons]
theorem lp_few8 (l : List PartD) (hl : l.length ≤ 1000000000000000) (hb : ∀ p ∈ l, p.2.2.length ≤ 1000000000000000) (k : Ex → St → Option (AV × Heap)) (i : Nat) (hi : i ≤ l.length) (c : Nat) (hc : c ≤ 2000) :
    (bnd (evC (call ir) (loop ir) lp10_0 (st10_0 0 (vL l) (dI c) (vL l) (dI l.length) (dI i) [])) (lpC (call ir) (loop ir) [0, 3, 6, 7, 8] lp10_0 k)) = (if c + sumB (l.drop i) ≤ 2000 then k (.exit 0) (clean [0] (st10_0 0 (vL l) .unk .unk .unk .unk []))
      else k .ret (clean [2] ⟨0, [.unk, .unk, dT false, .unk, .unk, .unk, .unk, .unk, .unk, .unk, .unk, .unk, .unk, .unk, .unk, .unk, .unk, .unk, .unk, .unk, .unk, .unk, .unk], []⟩)) := by
  by_cases h : i = l.length
  · have hx : ¬ (i : Int) < l.length := by omega
    rw [h] at hx
    rw [h, List.drop_length, if_pos (show c + sumB [] ≤ 2000 by simp [sumB]; exact hc)]
    simp (maxSteps := 2000000) (disch := omega) only [go_sem, doCall, doCallQ, doCallP, Nat.reduceAdd, Nat.reduceMul, Nat.reduceSub, Nat.reduceDiv, Nat.reduceMod, Nat.reduceLT, Nat.reduceLeDiff, Nat.reduceEqDiff, Nat.reduceBEq, Nat.reduceBNe, Int.reduceToNat, Int.reduceLT, Int.reduceLE, Int.reduceEq, Int.reduceNe, Int.reduceAdd, Int.reduceSub, Int.reduceMul, Int.reduceNeg, u10_0, lb10_0, hx]
  · have hlt : (i : Int) < l.length := by omega
    have hi' : i < l.length := by omega
    have hw := wr_succ (i := i) (by omega)
    have hg := getP l hi'
    have hlm : (l.map partRow).length = l.length := List.length_map ..
    have hbi := hb _ (List.getElem_mem hi')
    have hw2 : wr .i64 ((c : Int) + (l[i].2.2.length : Int)) = ((c + l[i].2.2.length : Nat) : Int) := by rw [wr_id (by omega)]; omega
    rw [sumB_drop hi']
    by_cases h2 : c + l[i].2.2.length ≤ 2000
    · have h2' := eq_false (show ¬ (2000 : Int) < ((c + l[i].2.2.length : Nat) : Int) by omega)
      have ih := lp_few8 l hl hb k (i + 1) (by omega) (c + l[i].2.2.length) h2
      rw [Nat.add_assoc] at ih
      simp (maxSteps := 2000000) (disch := omega) only [go_sem, doCall, doCallQ, doCallP, Nat.reduceAdd, Nat.reduceMul, Nat.reduceSub, Nat.reduceDiv, Nat.reduceMod, Nat.reduceLT, Nat.reduceLeDiff, Nat.reduceEqDiff, Nat.reduceBEq, Nat.reduceBNe, Int.reduceToNat, Int.reduceLT, Int.reduceLE, Int.reduceEq, Int.reduceNe, Int.reduceAdd, Int.reduceSub, Int.reduceMul, Int.reduceNeg, u10_0, lb10_0, hlt, hi', hw, hg, hlm, hw2, h2', rB_len, Int.natCast_nonneg, Int.toNat_natCast, Option.getD_some, Option.getD_none, List.drop_zero, Nat.sub_zero, Nat.zero_le, true_and, and_true, Nat.le_refl, chk_of]
      rw [loop_step1]; simp (maxSteps := 2000000) only [go_sem, doCall, doCallQ, doCallP, Nat.reduceAdd, Nat.reduceMul, Nat.reduceSub, Nat.reduceDiv, Nat.reduceMod, Nat.reduceLT, Nat.reduceLeDiff, Nat.reduceEqDiff, Nat.reduceBEq, Nat.reduceBNe, Int.reduceToNat, Int.reduceLT, Int.reduceLE, Int.reduceEq, Int.reduceNe, Int.reduceAdd, Int.reduceSub, Int.reduceMul, Int.reduceNeg]; exact ih
    · have h2' := eq_true (show (2000 : Int) < ((c + l[i].2.2.length : Nat) : Int) by omega)
      rw [if_neg (by omega)]
      simp (maxSteps := 2000000) (disch := omega) only [go_sem, doCall, doCallQ, doCallP, Nat.reduceAdd, Nat.reduceMul, Nat.reduceSub, Nat.reduceDiv, Nat.reduceMod, Nat.reduceLT, Nat.reduceLeDiff, Nat.reduceEqDiff, Nat.reduceBEq, Nat.reduceBNe, Int.reduceToNat, Int.reduceLT, Int.reduceLE, Int.reduceEq, Int.reduceNe, Int.reduceAdd, Int.reduceSub, Int.reduceMul, Int.reduceNeg, u10_0, lb10_0, hlt, hi', hw, hg, hlm, hw2, h2', rB_len, Int.natCast_nonneg, Int.toNat_natCast, Option.getD_some, Option.getD_none, List.drop_zero, Nat.sub_zero, Nat.zero_le, true_and, and_true, Nat.le_refl, chk_of]
termination_by l.length - i
theorem t_few8 (l : List PartD) (hl : l.length ≤ 1000000000000000) (hb : ∀ p ∈ l, p.2.2.length ≤ 1000000000000000) : call ir 10 [vL l] [] = some (dT (decide (sumB l ≤ 2000 ∧ l.length ≤ 20)), []) := by
  rw [call_eq (fn := ir10) rfl, evF_bnd]
  have hlm : (l.map partRow).length = l.length := List.length_map ..
  simp (maxSteps := 2000000) (disch := omega) only [go_sem, doCall, doCallQ, doCallP, Nat.reduceAdd, Nat.reduceMul, Nat.reduceSub, Nat.reduceDiv, Nat.reduceMod, Nat.reduceLT, Nat.reduceLeDiff, Nat.reduceEqDiff, Nat.reduceBEq, Nat.reduceBNe, Int.reduceToNat, Int.reduceLT, Int.reduceLE, Int.reduceEq, Int.reduceNe, Int.reduceAdd, Int.reduceSub, Int.reduceMul, Int.reduceNeg, bd10, hlm, chk_of]
  rw [loop_step1]; simp (maxSteps := 2000000) only [go_sem, doCall, doCallQ, doCallP, Nat.reduceAdd, Nat.reduceMul, Nat.reduceSub, Nat.reduceDiv, Nat.reduceMod, Nat.reduceLT, Nat.reduceLeDiff, Nat.reduceEqDiff, Nat.reduceBEq, Nat.reduceBNe, Int.reduceToNat, Int.reduceLT, Int.reduceLE, Int.reduceEq, Int.reduceNe, Int.reduceAdd, Int.reduceSub, Int.reduceMul, Int.reduceNeg]
  refine (lp_few8 l hl hb _ 0 (Nat.zero_le _) 0 (by omega)).trans ?_
  rw [List.drop_zero, Nat.zero_add]
  by_cases h1 : sumB l ≤ 2000
  · rw [if_pos h1]
    by_cases h2 : l.length ≤ 20
    · have h2' := eq_true (show (l.length : Int) ≤ 20 by omega)
      rw [decide_eq_true (show sumB l ≤ 2000 ∧ l.length ≤ 20 from ⟨h1, h2⟩)]
      simp (maxSteps := 2000000) (disch := omega) only [go_sem, doCall, doCallQ, doCallP, Nat.reduceAdd, Nat.reduceMul, Nat.reduceSub, Nat.reduceDiv, Nat.reduceMod, Nat.reduceLT, Nat.reduceLeDiff, Nat.reduceEqDiff, Nat.reduceBEq, Nat.reduceBNe, Int.reduceToNat, Int.reduceLT, Int.reduceLE, Int.reduceEq, Int.reduceNe, Int.reduceAdd, Int.reduceSub, Int.reduceMul, Int.reduceNeg, hlm, h2', chk_of]
    · have h2' := eq_false (show ¬ (l.length : Int) ≤ 20 by omega)
      rw [decide_eq_false (fun h : sumB l ≤ 2000 ∧ l.length ≤ 20 => h2 h.2)]
      simp (maxSteps := 2000000) (disch := omega) only [go_sem, doCall, doCallQ, doCallP, Nat.reduceAdd, Nat.reduceMul, Nat.reduceSub, Nat.reduceDiv, Nat.reduceMod, Nat.reduceLT, Nat.reduceLeDiff, Nat.reduceEqDiff, Nat.reduceBEq, Nat.reduceBNe, Int.reduceToNat, Int.reduceLT, Int.reduceLE, Int.reduceEq, Int.reduceNe, Int.reduceAdd, Int.reduceSub, Int.reduceMul, Int.reduceNeg, hlm, h2', chk_of]
  · rw [if_neg h1, decide_eq_false (fun h : sumB l ≤ 2000 ∧ l.length ≤ 20 => h1 h.1)]
    simp (maxSteps := 2000000) (disch := omega) only [go_sem, doCall, doCallQ, doCallP, Nat.reduceAdd, Nat.reduceMul, Nat.reduceSub, Nat.reduceDiv, Nat.reduceMod, Nat.reduceLT, Nat.reduceLeDiff, Nat.reduceEqDiff, Nat.reduceBEq, Nat.reduceBNe, Int.reduceToNat, Int.reduceLT, Int.reduceLE, Int.reduceEq, Int.reduceNe, Int.reduceAdd, Int.reduceSub, Int.reduceMul, Int.reduceNeg]
/-- A body is short. -/
theorem putB_short (l : List PartD) (n : Int) (s : List UInt8) (h1 : sumB l ≤ 2000) (h2 : l.length ≤ 20) (h3 : s.length ≤ 100) : (putB l n s).length ≤ 1000000 := by
  have h : ∀ l : List PartD, (allBy s n l).length ≤ sumB l + l.length * 300 := by
    intro l
    induction l with
    | nil => simp [allBy]
    | cons p l ih =>
      have hc := cntS_len true p.1 p.2.1 n
      have e : (allBy s n (p :: l)).length = (headS s n p).length + p.2.2.length + 2 + (allBy s n l).length := by simp [allBy, oneB]; omega
      have e2 : (headS s n p).length = 4 + s.length + 15 + (cntS true p.1 p.2.1 n).length + 4 := by simp [headS]; omega
      have e3 : sumB (p :: l) = p.2.2.length + sumB l := by simp [sumB]
      rw [e, e2, e3, List.length_cons]; omega
  have := h l
  rw [putB_len]; omega
/-- The table with multi.Put in it. -/
def ir2 : IR := ⟨Ir.ir.fn, natOr Ir.ir.nat (natPut 11 putR putB)⟩
theorem tab2 : Tab Tryd.prog ir2 := ⟨Ir.tab.mixed, fun f fn h => Ir.tab.fns f fn h, natOr_snd Ir.tab.nat putSnd⟩
theorem ext2 : Ext Ir.ir ir2 := ⟨fun f fn h => h, fun f x H r h1 h2 => ⟨h1, natOr_l h2⟩⟩
theorem put_nat (x : List AV) : Ir.ir.nat 11 x [] = none := by
  rw [nat_eq]
  exact (natOr_r rfl).trans ((natOr_r rfl).trans rfl)
theorem put_call (l : List PartD) (n : Int) (s : List UInt8) (hsz : l.length + s.length ≤ 1000000000) (hp : putR l n s = true → (putB l n s).length ≤ 1000000) :
    call ir2 11 [vL l, dI n, dS s] [] = if putR l n s then some (.tup [vB (putB l n s), dI 0], []) else some (.tup [vB [], dI 1], []) := by
  rw [call_nat (by rfl)]
  refine (natOr_r (put_nat _)).trans ?_
  refine (natPut_eq 11 putR putB l n s hsz).trans ?_
  cases h : putR l n s
  · rfl
  · rw [if_pos rfl, if_pos rfl, if_pos (hp h)]
theorem t_why (r : Bool) : call ir2 43 [if r then .d .nili else bad3] [] = some (dI (if r then 0 else 3), []) := by
  rw [call_nat (by rfl)]
  refine natOr_l ?_
  rw [nat_eq]
  refine natOr_l ?_
  cases r <;> rfl
end Go.Proofs.YtpibecljdooilaaDoor
