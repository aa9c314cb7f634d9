/- Functions that are known by a contract: maps.Clone, maps.Equal, bytes.Clone. Own work. -/
import Derived.Test.YtbcpffhialoliaaEvNat
import Derived.Laws.AppendOwn
namespace Go.Ev
open Go Go.RowKit
set_option linter.unusedVariables false
set_option linter.unusedSimpArgs false

theorem arr1 {c : Array Value} (h : 1 = c.size) : c = #[c.getD 0 undef] := by
  apply Array.ext
  · simpa using h.symm
  · intro i h1 h2
    have : i = 0 := by simp at h2; omega
    subst this; simp [Array.getD, ← h]
theorem arr2 {c : Array Value} (hs : 2 = c.size) : c = #[c.getD 0 undef, c.getD 1 undef] := by
  apply Array.ext
  · simpa using hs.symm
  · intro i h1 h2
    have : i = 0 ∨ i = 1 := by simp at h2; omega
    rcases this with rfl | rfl <;> simp [Array.getD, ← hs]

theorem evo_of_below_new {w w' : World} {S : Sta} {ρ : Pos} (hr : Rel w S ρ []) (hb : Below w.heap.size w w') : Evo w S ρ [] w' (fun g => S g ∨ (w.heap.size ≤ g ∧ g < w'.heap.size)) ρ [] := by
  have hlt : ∀ g, g < w.heap.size → w'.heap[g]? = w.heap[g]? := hb.block
  refine ⟨⟨fun i => by simp [BlkR], fun i j g β γ h => by simp [Blk.mut] at h, hr.lim, fun i g β h => Nat.lt_of_lt_of_le (hr.rlt i g β h) hb.size, fun g h => ?_, hr.gl.mono (fun _ h => .inl h) fun g hg => hlt g (hr.slt g hg)⟩, Nat.le_refl _, fun _ _ => rfl, fun _ _ h => h,
    fun _ h => .inl h, fun g h => ?_, fun g hg _ => hlt g hg, fun _ h => .inl h, fun g c e f h => ?_, hb.size, hb.os, hb.tape, hb.output, fun _ _ _ h => h⟩
  · rcases h with h | h
    · exact Nat.lt_of_lt_of_le (hr.slt g h) hb.size
    · exact h.2
  · rcases h with h | h
    · exact .inl h
    · exact .inr (.inr h.1)
  · have hg : g < w.heap.size := (Array.getElem?_eq_some_iff.1 h).1
    exact ⟨c, f, by rw [hlt g hg]; exact h, rfl⟩

/-! ### maps.Clone -/
def natMC (k : FuncId) : Callee := fun f args H =>
  if f = k then
    match args, H with
    | [.d .nilm], [] => some (.d .nilm, [])
    | [.d (.mapv es)], [] => some (.mref 0, [.mp es])
    | _, _ => none
  else none
theorem natMC_nil (k : FuncId) : natMC k k [.d .nilm] [] = some (.d .nilm, []) := by simp [natMC]
theorem natMC_map (k : FuncId) (es : List (Int × D)) : natMC k k [.d (.mapv es)] [] = some (.mref 0, [.mp es]) := by simp [natMC]
theorem natMC_snd {P : Program} {k : FuncId} (hb : HasBody P k)
    (h0 : ∀ w : World, Calls P k #[.map none] w fun e w' => e = .returned (.map none) ∧ w' = w)
    (h1 : ∀ (b : Nat) (es : Array MapEntry) (clk : Nat) (w : World), w.heap[b]? = some (.map es clk) → Calls P k #[.map (some b)] w fun e w' => e = .returned (.map (some w.heap.size)) ∧ w' = w.alloc (.map es clk)) : CallSnd P (natMC k) := by
  intro f args H r H' h
  unfold natMC at h
  split at h
  case isFalse => simp at h
  rename_i hf; subst hf
  split at h
  · simp only [Option.some.injEq, Prod.mk.injEq] at h
    obtain ⟨rfl, rfl⟩ := h
    refine ⟨hb, fun w S ρ cargs hr hlen hv => ?_⟩
    have e0 := hv 0 (by simp)
    simp only [List.getD_cons_zero] at e0
    rw [arr1 hlen]
    generalize cargs.getD 0 undef = v0 at e0
    cases e0.dr
    refine (h0 w).mono fun e w' ⟨he, hw'⟩ => ?_
    subst hw'
    exact ⟨_, S, ρ, he, Evo.refl hr, .d _ _ .nilm⟩
  · rename_i es
    simp only [Option.some.injEq, Prod.mk.injEq] at h
    obtain ⟨rfl, rfl⟩ := h
    refine ⟨hb, fun w S ρ cargs hr hlen hv => ?_⟩
    have e0 := hv 0 (by simp)
    simp only [List.getD_cons_zero] at e0
    rw [arr1 hlen]
    generalize cargs.getD 0 undef = v0 at e0
    cases e0.dr with
    | mapv _ b ents clk cs g1 g2 g3 g4 g5 =>
    refine (h1 b ents clk w g2).mono fun e w' ⟨he, hw'⟩ => ?_
    subst hw'
    have hst : ∀ g, S g → (w.alloc (.map ents clk)).heap[g]? = w.heap[g]? := fun g hg => alloc_old (hr.slt g hg)
    refine ⟨_, S, posNew ρ 0 w.heap.size 0, he, ?_, .mref 0 _ (posNew_same ..)⟩
    exact evo_new hr (.map ents clk) (.mp es) fun q1 q2 q3 q4 _ => ⟨w.heap.size, ents, clk, cs, q2, q1, q3, g3, g4, fun i hi => q4 _ _ (g5 i hi)⟩
  · simp at h

/-! ### maps.Equal, elements of two whole numbers -/
def addrM : List (Int × D) → Option (List (Int × Int × Int))
  | [] => some []
  | (k, .agg [.int .i64 a, .int .i64 b]) :: l => match addrM l with
    | some r => some ((k, a, b) :: r)
    | none => none
  | _ :: _ => none
def mapvL : AV → Option (List (Int × D))
  | .d .nilm => some []
  | .d (.mapv es) => some es
  | _ => none
def addrV (p : Int × Int × Int) : Int × Value := (p.1, .agg #[.int .i64 p.2.1, .int .i64 p.2.2])
/-- What a map of the model reads as. -/
def MapIs (w : World) (p : Option Nat) (l : List (Int × Int × Int)) : Prop :=
  (p = none ∧ l = []) ∨ ∃ b ents clk, p = some b ∧ w.heap[b]? = some (.map ents clk) ∧ Ents ents clk (l.map addrV)

theorem agg2_inv {w : World} {S : Sta} {a b : Int} {v : Value} (h : DR w S (.agg [.int .i64 a, .int .i64 b]) v) : v = .agg #[.int .i64 a, .int .i64 b] := by
  cases h with
  | agg _ vs hl ho hh =>
    have e0 := hh 0 (by simp)
    have e1 := hh 1 (by simp)
    simp only [List.getD_cons_zero, List.getD_cons_succ] at e0 e1
    rw [arr2 (c := vs) hl]
    generalize vs.getD 0 undef = x at e0
    generalize vs.getD 1 undef = y at e1
    cases e0; cases e1; rfl

theorem addrM_cs {w : World} {S : Sta} : ∀ {es : List (Int × D)} {cs : List (Int × Value)} {l : List (Int × Int × Int)}, addrM es = some l → es.map (·.1) = cs.map (·.1) →
    (∀ i, i < es.length → DR w S (es.getD i (0, .nilp)).2 (cs.getD i (0, undef)).2) → cs = l.map addrV
  | [], cs, l, h, hk, _ => by
    simp only [addrM, Option.some.injEq] at h; subst h
    cases cs with
    | nil => rfl
    | cons c cs => simp at hk
  | (k, d) :: es, [], l, h, hk, _ => by simp at hk
  | (k, d) :: es, (k', v) :: cs, l, h, hk, hd => by
    unfold addrM at h
    split at h
    · rename_i e; simp at e
    · rename_i k2 a b es2 e
      simp only [List.cons.injEq, Prod.mk.injEq] at e
      obtain ⟨⟨rfl, rfl⟩, rfl⟩ := e
      split at h
      · rename_i r hr
        injection h with h; subst h
        simp only [List.map_cons, List.cons.injEq] at hk
        obtain ⟨rfl, hk⟩ := hk
        have h0 := hd 0 (by simp)
        simp only [List.getD_cons_zero] at h0
        rw [agg2_inv h0, addrM_cs hr hk fun i hi => by simpa using hd (i + 1) (by simpa using hi)]
        rfl
      · simp at h
    · simp at h

theorem mapIs_of {w : World} {S : Sta} {ρ : Pos} {x : AV} {v : Value} {es : List (Int × D)} {l : List (Int × Int × Int)} (hv : VR w S ρ x v) (h : mapvL x = some es) (hl : addrM es = some l) : ∃ p, v = .map p ∧ MapIs w p l := by
  unfold mapvL at h
  split at h
  · injection h with h; subst h
    cases hv.dr
    simp only [addrM, Option.some.injEq] at hl
    exact ⟨none, rfl, .inl ⟨rfl, hl.symm⟩⟩
  · injection h with h; subst h
    cases hv.dr with
    | mapv _ b ents clk cs g1 g2 g3 g4 g5 =>
      obtain rfl := addrM_cs hl g4 g5
      exact ⟨some b, rfl, .inr ⟨b, ents, clk, rfl, g2, g3⟩⟩
  · simp at h

def smallM (l : List (Int × Int × Int)) : Prop := l.length ≤ 1000000 ∧ ∀ p ∈ l, 0 ≤ p.1 ∧ p.1 ≤ 1000000000
instance (l : List (Int × Int × Int)) : Decidable (smallM l) := by unfold smallM; infer_instance
def natME (k : FuncId) : Callee := fun f args H =>
  if f = k then
    match args, H with
    | [x, y], [] => match mapvL x, mapvL y with
      | some es, some fs => match addrM es, addrM fs with
        | some l, some r => if smallM l ∧ smallM r then some (.d (.bool (decide (l = r))), []) else none
        | _, _ => none
      | _, _ => none
    | _, _ => none
  else none
theorem natME_eq (k : FuncId) {x y : AV} {es fs : List (Int × D)} {l r : List (Int × Int × Int)} (hx : mapvL x = some es) (hy : mapvL y = some fs) (hl : addrM es = some l) (hr : addrM fs = some r) :
    natME k k [x, y] [] = if smallM l ∧ smallM r then some (.d (.bool (decide (l = r))), []) else none := by
  simp only [natME, if_true, hx, hy, hl, hr]
theorem natME_snd {P : Program} {k : FuncId} (hb : HasBody P k)
    (h1 : ∀ (w : World) (p q : Option Nat) (l r : List (Int × Int × Int)), MapIs w p l → MapIs w q r → smallM l → smallM r → Calls P k #[.map p, .map q] w fun e w' => e = .returned (.bool (decide (l = r))) ∧ Below w.heap.size w w') : CallSnd P (natME k) := by
  intro f args H r H' h
  unfold natME at h
  split at h
  case isFalse => simp at h
  rename_i hf; subst hf
  split at h
  case h_2 => simp at h
  rename_i x y
  split at h
  case h_2 => simp at h
  rename_i es fs he hf
  split at h
  case h_2 => simp at h
  rename_i l q hl hq
  split at h
  case isFalse => simp at h
  rename_i hok
  simp only [Option.some.injEq, Prod.mk.injEq] at h
  obtain ⟨rfl, rfl⟩ := h
  refine ⟨hb, fun w S ρ cargs hr hlen hv => ?_⟩
  have e0 := hv 0 (by simp)
  have e1 := hv 1 (by simp)
  simp only [List.getD_cons_zero, List.getD_cons_succ] at e0 e1
  rw [arr2 hlen]
  generalize cargs.getD 0 undef = v0 at e0
  generalize cargs.getD 1 undef = v1 at e1
  obtain ⟨p, rfl, m1⟩ := mapIs_of e0 he hl
  obtain ⟨p', rfl, m2⟩ := mapIs_of e1 hf hq
  exact (h1 w p p' l q m1 m2 hok.1 hok.2).mono fun e w' ⟨he, hbl⟩ => ⟨_, S, ρ, he, evo_of_below hr hbl, .d _ _ (.bool _)⟩

/-! ### bytes.Clone -/
def u8s : List (List D) → Option (List Int)
  | [] => some []
  | [.int .u8 n] :: l => match u8s l with
    | some r => some (n :: r)
    | none => none
  | _ :: _ => none
theorem u8s_map : ∀ l : List UInt8, u8s (l.map fun b => [.int .u8 b.toNat]) = some (l.map fun b => (b.toNat : Int))
  | [] => rfl
  | s :: l => by simp only [List.map_cons, u8s, u8s_map l]
theorem u8s_inv : ∀ {xs : List (List D)} {l : List Int}, u8s xs = some l → xs = l.map fun n => [.int .u8 n]
  | [], l, h => by simp [u8s] at h; subst h; rfl
  | x :: xs, l, h => by
    unfold u8s at h
    split at h
    · rename_i e; simp at e
    · rename_i s r e
      simp only [List.cons.injEq] at e
      obtain ⟨rfl, rfl⟩ := e
      split at h
      · rename_i q hq
        injection h with h; subst h
        rw [u8s_inv hq]; rfl
      · simp at h
    · simp at h
def natBC (k : FuncId) : Callee := fun f args H =>
  if f = k then
    match args, H with
    | [.d (.list 1 xs)], [] => match u8s xs with
      | some l => if l.length ≤ 140737488355328 then some (.d (.list 1 xs), []) else none
      | none => none
    | _, _ => none
  else none
theorem natBC_eq (k : FuncId) {xs : List (List D)} {l : List Int} (h : u8s xs = some l) : natBC k k [.d (.list 1 xs)] [] = if l.length ≤ 140737488355328 then some (.d (.list 1 xs), []) else none := by
  simp only [natBC, if_true, h]
theorem natBC_snd {P : Program} {k ty : FuncId} (hb : HasBody P k)
    (h0 : ∀ (n c : Nat) (w : World), Calls P k #[.slice none n c] w fun e w' => e = .returned (.slice none 0 0) ∧ w' = w)
    (h1 : ∀ (a : Addr) (n c : Nat) (xs : List Int) (w : World), xs.length = n → n ≤ 140737488355328 → (∀ i, i < n → w.cell? (a.add i) = some (.int .u8 (xs.getD i 0))) →
      Calls P k #[.slice (some a) n c] w fun e w' => ∃ v', e = .returned v' ∧ w'.ownsRow w.heap.size ty 1 v' n (xs.map (Value.int .u8)) ∧ v' ≠ .slice none 0 0 ∧ Below w.heap.size w w') : CallSnd P (natBC k) := by
  intro f args H r H' h
  unfold natBC at h
  split at h
  case isFalse => simp at h
  rename_i hf; subst hf
  split at h
  case h_2 => simp at h
  rename_i xs
  split at h
  case h_2 => simp at h
  rename_i l hl
  split at h
  case isFalse => simp at h
  rename_i hok
  simp only [Option.some.injEq, Prod.mk.injEq] at h
  obtain ⟨rfl, rfl⟩ := h
  obtain rfl := u8s_inv hl
  refine ⟨hb, fun w S ρ cargs hr hlen hv => ?_⟩
  have e0 := hv 0 (by simp)
  simp only [List.getD_cons_zero] at e0
  rw [arr1 hlen]
  generalize cargs.getD 0 undef = v0 at e0
  cases e0.dr with
  | list _ _ a n cap b o c hn hcap ha hcell hw hd =>
  rw [List.length_map] at hn hcap ha hcell hw hd
  cases a with
  | none =>
    have hl0 : l.length = 0 := by
      rcases Nat.eq_zero_or_pos l.length with h | h
      · exact h
      · have := (ha h).1; simp at this
    have : l = [] := List.eq_nil_of_length_eq_zero hl0
    subst this
    refine (h0 n cap w).mono fun e w' ⟨he, hw'⟩ => ?_
    subst hw'
    exact ⟨_, S, ρ, he, Evo.refl hr, .d _ _ (.list 1 [] none 0 0 0 0 (fun _ => undef) rfl (Nat.le_refl _) (by simp) (by simp) (by simp) (by simp))⟩
  | some a =>
    subst hn
    refine (h1 a l.length cap l w rfl hok (fun i hi => ?_)).mono fun e w' ⟨v', he, how, hne, hbl⟩ => ?_
    · obtain ⟨q1, q2⟩ := ha (by omega)
      injection q1 with q1; subst q1
      have e1 := (hcell i (by omega)).1
      have := hd i hi 0 (by omega)
      have e2 : ((l.map fun n => [D.int .u8 n]).getD i []).getD 0 .nilp = .int .u8 (l.getD i 0) := by simp [List.getD_eq_getElem?_getD, hi]
      rw [e2, Nat.mul_one, Nat.add_zero] at this
      have ea : Addr.add ⟨b, o, none⟩ i = ⟨b, o + i, none⟩ := by simp [Addr.add]
      rw [ea, e1]
      cases hck : c i <;> rw [hck] at this <;> cases this
      rfl
    · refine ⟨v', _, ρ, he, evo_of_below_new hr hbl, .d _ _ ?_⟩
      obtain ⟨_, hrow⟩ := how
      rcases hrow with ⟨q, _⟩ | ⟨g, cap', cur, rfl, hg, hblk, hcap2, hmax, hsz, htk⟩
      · exact absurd q hne
      · have hglt : g < w'.heap.size := (Array.getElem?_eq_some_iff.1 hblk).1
        have hcell2 : ∀ j, j < l.length → w'.cell? ⟨g, 0 + j, none⟩ = some (.int .u8 (l.getD j 0)) := fun j hj => by
          have h5 : (cur.toList.take (l.length * 1)).getD j undef = .int .u8 (l.getD j 0) := by
            rw [htk]; simp [List.getD_eq_getElem?_getD, hj]
          rw [List.getD_eq_getElem?_getD, List.getElem?_take, if_pos (by omega)] at h5
          have hjs : j < cur.size := by omega
          have h6 : cur[j]? = some (.int .u8 (l.getD j 0)) := by
            rw [Array.getElem?_toList, Array.getElem?_eq_getElem hjs] at h5
            rw [Array.getElem?_eq_getElem hjs]
            simpa using h5
          rw [Nat.zero_add, cell_at hblk hjs]
          simp only [Array.getD_eq_getD_getElem?, h6, Option.getD_some]
        refine .list 1 _ _ _ _ g 0 (fun j => .int .u8 (l.getD j 0)) (by simp) (by simpa using hcap2) (fun _ => ⟨rfl, .inr ⟨hg, hglt⟩⟩) (fun j hj => ⟨hcell2 j (by simpa using hj), rfl⟩) (fun i hi => by
          have hi' : i < l.length := by simpa using hi
          simp [List.getD_eq_getElem?_getD, hi']) fun i hi j hj => ?_
        have hi' : i < l.length := by simpa using hi
        obtain rfl : j = 0 := by omega
        have e2 : ((l.map fun n => [D.int .u8 n]).getD i []).getD 0 .nilp = .int .u8 (l.getD i 0) := by simp [List.getD_eq_getElem?_getD, hi']
        rw [e2, Nat.mul_one, Nat.add_zero]
        exact .int _ _
end Go.Ev
