/- Abstract values, their relation to the model's memory, and how that relation moves. Own work; by-name.py fills the marks. -/
import Derived.WalkKit
import Derived.KernelRfl
import Derived.Test.YtbcpffhialoliaaEvMap
import Derived.Test.YtbcpffhialoliaaEvTab
namespace Go.Ev

/-- Immutable data: what one value is, read through memory that is never written again. -/
inductive D where
  | bool (b : Bool)
  | int (k : IntKind) (n : Int)
  | str (s : List UInt8)
  | nilp | nils | nilm | nilf | nili | emp
  | list (z : Nat) (xs : List (List D))
  | mapv (es : List (Int × D))
  | ifc (t : TypeId) (x : D)
  | agg (cs : List D)
  | fn (f : FuncId)
  deriving Inhabited

/-- Abstract values of slots. -/
inductive AV where
  | unk
  | d (x : D)
  | agg (cs : List AV)
  | tup (vs : List AV)
  | ptr (i o : Nat)
  | ept (i z k c : Nat)
  | cpt (cs : List D) (c : Nat)
  | own (i z o n : Nat) (k : Bool)
  | clo (f : Fn) (a b : List AV)
  | ifc (t : TypeId) (x : AV)
  | mref (i : Nat)
  deriving Inhabited

/-- Abstract blocks. -/
inductive Blk where
  | dead
  | box (cs : List AV)
  | dbox (cs : List D)
  | arr (z : Nat) (xs : List (List D))
  | frz (z : Nat) (xs : List (List D))
  | mp (es : List (Int × D))
  | mfz (es : List (Int × D))
  deriving Inhabited

abbrev Heap := List Blk
abbrev Sta := Nat → Prop
abbrev Pos := Nat → Option (Nat × Nat)

def Blk.mut : Blk → Bool
  | .dead | .frz .. | .mfz _ => false
  | _ => true

/-- A value that takes one cell. -/
def one : Value → Bool
  | .agg _ | .tuple _ => false
  | _ => true

inductive DR (w : World) (S : Sta) : D → Value → Prop
  | bool (b : Bool) : DR w S (.bool b) (.bool b)
  | int (k : IntKind) (n : Int) : DR w S (.int k n) (.int k n)
  | str (s : List UInt8) : DR w S (.str s) (.string ⟨s.toArray⟩)
  | nilp : DR w S .nilp (.pointer none)
  | nils : DR w S .nils (.slice none 0 0)
  | nilm : DR w S .nilm (.map none)
  | nilf : DR w S .nilf .nilFunc
  | nili : DR w S .nili .nilIface
  | emp (a : Option Addr) : DR w S .emp (.slice a 0 0)
  | list (z : Nat) (xs : List (List D)) (a : Option Addr) (n cap b o : Nat) (c : Nat → Value) : n = xs.length → xs.length ≤ cap →
      (0 < xs.length → a = some ⟨b, o, none⟩ ∧ S b) →
      (∀ k, k < xs.length * z → w.cell? ⟨b, o + k, none⟩ = some (c k) ∧ one (c k) = true) →
      (∀ i, i < xs.length → (xs.getD i []).length = z) →
      (∀ i, i < xs.length → ∀ j, j < z → DR w S ((xs.getD i []).getD j .nilp) (c (i * z + j))) →
      DR w S (.list z xs) (.slice a n cap)
  | mapv (es : List (Int × D)) (r : Nat) (ents : Array MapEntry) (clk : Nat) (cs : List (Int × Value)) : S r → w.heap[r]? = some (.map ents clk) → Ents ents clk cs → es.map (·.1) = cs.map (·.1) →
      (∀ i, i < es.length → DR w S (es.getD i (0, .nilp)).2 (cs.getD i (0, undef)).2) → DR w S (.mapv es) (.map (some r))
  | ifc (t : TypeId) (x : D) (v : Value) : DR w S x v → DR w S (.ifc t x) (.iface t v)
  | agg (cs : List D) (vs : Array Value) : cs.length = vs.size → (∀ i, i < cs.length → one (vs.getD i undef) = true) → (∀ i, i < cs.length → DR w S (cs.getD i .nilp) (vs.getD i undef)) → DR w S (.agg cs) (.agg vs)
  | fn (f : FuncId) : DR w S (.fn f) (.func (.func f) #[] #[])

def bsz (w : World) (g : Nat) : Nat := match w.heap[g]? with | some (.cells c _ _) => c.size | _ => 0

inductive VR (w : World) (S : Sta) (ρ : Pos) : AV → Value → Prop
  | unk (v : Value) : VR w S ρ .unk v
  | d (x : D) (v : Value) : DR w S x v → VR w S ρ (.d x) v
  | agg (cs : List AV) (vs : Array Value) : cs.length = vs.size → (∀ i, i < cs.length → one (vs.getD i undef) = true) → (∀ i, i < cs.length → VR w S ρ (cs.getD i .unk) (vs.getD i undef)) → VR w S ρ (.agg cs) (.agg vs)
  | tup (cs : List AV) (vs : Array Value) : cs.length = vs.size → (∀ i, i < cs.length → VR w S ρ (cs.getD i .unk) (vs.getD i undef)) → VR w S ρ (.tup cs) (.tuple vs)
  | ptr (i o g β : Nat) : ρ i = some (g, β) → VR w S ρ (.ptr i o) (.pointer (some ⟨g, β + o, none⟩))
  | ept (i z k c g β : Nat) : ρ i = some (g, β) → VR w S ρ (.ept i z k c) (.pointer (some ⟨g, β + (k * z + c), none⟩))
  | cpt (cs : List D) (c b o : Nat) (f : Nat → Value) : S b → (∀ j, j < cs.length → w.cell? ⟨b, o + j, none⟩ = some (f j) ∧ one (f j) = true) →
      (∀ j, j < cs.length → DR w S (cs.getD j .nilp) (f j)) → VR w S ρ (.cpt cs c) (.pointer (some ⟨b, o + c, none⟩))
  | own (i z o n : Nat) (k : Bool) (a : Option Addr) (cap : Nat) : n ≤ cap → (k = true → cap = n) →
      (0 < cap → ∃ g β, ρ i = some (g, β) ∧ a = some ⟨g, β + o * z, none⟩ ∧ β + (o + cap) * z ≤ bsz w g) → VR w S ρ (.own i z o n k) (.slice a n cap)
  | clo (f : Fn) (a b : List AV) (va vb : Array Value) : a.length = va.size → b.length = vb.size →
      (∀ i, i < a.length → VR w S ρ (a.getD i .unk) (va.getD i undef)) → (∀ i, i < b.length → VR w S ρ (b.getD i .unk) (vb.getD i undef)) →
      VR w S ρ (.clo f a b) (.func f va vb)
  | ifc (t : TypeId) (x : AV) (v : Value) : VR w S ρ x v → VR w S ρ (.ifc t x) (.iface t v)
  | mref (i g : Nat) : ρ i = some (g, 0) → VR w S ρ (.mref i) (.map (some g))

/-- Rows of elements, from cell β on. -/
structure RowR (w : World) (S : Sta) (c : Array Value) (β z : Nat) (xs : List (List D)) : Prop where
  fits : β + xs.length * z ≤ c.size
  wide : ∀ k, k < xs.length → (xs.getD k []).length = z
  ones : ∀ k, k < xs.length * z → one (c.getD (β + k) undef) = true
  cell : ∀ k, k < xs.length → ∀ j, j < z → DR w S ((xs.getD k []).getD j .nilp) (c.getD (β + (k * z + j)) undef)

structure MapR (w : World) (S : Sta) (cs : List (Int × Value)) (es : List (Int × D)) : Prop where
  key : es.map (·.1) = cs.map (·.1)
  val : ∀ i, i < es.length → DR w S (es.getD i (0, .nilp)).2 (cs.getD i (0, undef)).2

/-- No cell of a block is shared with a text. -/
def Thaw (f : Nat × Nat) (n : Nat) : Prop := f.1 ≤ f.2 ∧ ∀ o, o < n → ¬ (f.1 ≤ o ∧ o < f.2)
theorem thaw_zero (n : Nat) : Thaw (0, 0) n := ⟨Nat.le_refl _, fun o _ h => by simp at h⟩

def BlkR (w : World) (S : Sta) (ρ : Pos) (i : Nat) : Blk → Prop
  | .dead => True
  | .box cs => ∃ g c e f, ρ i = some (g, 0) ∧ (w.heap[g]? = some (.cells c e f) ∧ Thaw f c.size) ∧ ¬ S g ∧ cs.length = c.size ∧
      (∀ j, j < cs.length → one (c.getD j undef) = true) ∧ ∀ j, j < cs.length → VR w S ρ (cs.getD j .unk) (c.getD j undef)
  | .dbox cs => ρ i = none ∨ ∃ g c e f, ρ i = some (g, 0) ∧ (w.heap[g]? = some (.cells c e f) ∧ Thaw f c.size) ∧ ¬ S g ∧ cs.length = c.size ∧
      (∀ j, j < cs.length → one (c.getD j undef) = true) ∧ ∀ j, j < cs.length → DR w S (cs.getD j .nilp) (c.getD j undef)
  | .arr z xs => (ρ i = none → xs = []) ∧ ∀ g β, ρ i = some (g, β) → ¬ S g ∧ ∃ c e f, (w.heap[g]? = some (.cells c e f) ∧ Thaw f c.size) ∧ RowR w S c β z xs
  | .frz z xs => (ρ i = none → xs = []) ∧ ∀ g β, ρ i = some (g, β) → S g ∧ ∃ c e f, w.heap[g]? = some (.cells c e f) ∧ RowR w S c β z xs
  | .mp es => ∃ g ents clk cs, ρ i = some (g, 0) ∧ w.heap[g]? = some (.map ents clk) ∧ ¬ S g ∧ Ents ents clk cs ∧ MapR w S cs es
  | .mfz es => ∃ g ents clk cs, ρ i = some (g, 0) ∧ w.heap[g]? = some (.map ents clk) ∧ S g ∧ Ents ents clk cs ∧ MapR w S cs es

theorem cell_heap {w w' : World} {g o : Nat} (h : w'.heap[g]? = w.heap[g]?) : w'.cell? ⟨g, o, none⟩ = w.cell? ⟨g, o, none⟩ := World.cell?_of_block h
/-- The library's tables that a seat's program reads: they stand where they were laid. -/
def Gl (w : World) (S : Sta) : Prop := (∀ p ∈ glT, S p.1 ∧ ∀ j, j < p.2.length → w.cell? ⟨p.1, j, none⟩ = some (p.2.getD j undef)) ∧ ∀ g ∈ glI, S g ∧ ∃ m : Int, w.cell? ⟨g, 0, none⟩ = some (.int .i64 m)
theorem Gl.mono {w w' : World} {S S' : Sta} (h : Gl w S) (hS : ∀ g, S g → S' g) (hw : ∀ g, S g → w'.heap[g]? = w.heap[g]?) : Gl w' S' :=
  ⟨fun p hp => ⟨hS _ (h.1 p hp).1, fun j hj => by rw [cell_heap (hw _ (h.1 p hp).1)]; exact (h.1 p hp).2 j hj⟩,
    fun g hg => ⟨hS _ (h.2 g hg).1, by rw [cell_heap (hw _ (h.2 g hg).1)]; exact (h.2 g hg).2⟩⟩

structure Rel (w : World) (S : Sta) (ρ : Pos) (H : Heap) : Prop where
  blk : ∀ i, BlkR w S ρ i (H.getD i .dead)
  inj : ∀ i j g β γ, (H.getD i .dead).mut = true → (H.getD j .dead).mut = true → ρ i = some (g, β) → ρ j = some (g, γ) → i = j
  lim : ∀ i, H.length ≤ i → ρ i = none
  rlt : ∀ i g β, ρ i = some (g, β) → g < w.heap.size
  slt : ∀ g, S g → g < w.heap.size
  gl : Gl w S

/-- What a piece of code that holds H may write. -/
def Wr (ρ : Pos) (H : Heap) (g : Nat) : Prop := ∃ i β, (H.getD i .dead).mut = true ∧ ρ i = some (g, β)

/-- A step of the world as the code that holds H may take it. -/
structure Evo (w : World) (S : Sta) (ρ : Pos) (H : Heap) (w' : World) (S' : Sta) (ρ' : Pos) (H' : Heap) : Prop where
  rel : Rel w' S' ρ' H'
  len : H.length ≤ H'.length
  ext : ∀ i, i < H.length → ρ' i = ρ i
  dead : ∀ i, i < H.length → (H.getD i .dead).mut = false → (H'.getD i .dead).mut = false
  sub : ∀ g, S g → S' g
  new : ∀ g, S' g → S g ∨ Wr ρ H g ∨ w.heap.size ≤ g
  frame : ∀ g, g < w.heap.size → ¬ Wr ρ H g → w'.heap[g]? = w.heap[g]?
  own : ∀ g, Wr ρ' H' g → Wr ρ H g ∨ w.heap.size ≤ g
  shape : ∀ (g : Nat) (c : Array Value) (e : TypeId) (f : Nat × Nat), w.heap[g]? = some (Obj.cells c e f) → ∃ (c' : Array Value) (f' : Nat × Nat), w'.heap[g]? = some (Obj.cells c' e f') ∧ c'.size = c.size
  size : w.heap.size ≤ w'.heap.size
  os : w'.os = w.os
  tape : w'.tape = w.tape
  output : w'.output = w.output
  unb : ∀ i cs, ρ i = none → H.getD i .dead = .dbox cs → H'.getD i .dead = .dbox cs


theorem DR.mono {w w' : World} {S S' : Sta} (hS : ∀ g, S g → S' g) (hw : ∀ g, S g → w'.heap[g]? = w.heap[g]?) {x : D} {v : Value} (h : DR w S x v) : DR w' S' x v := by
  induction h with
  | bool b => exact .bool b
  | int k n => exact .int k n
  | str s => exact .str s
  | nilp => exact .nilp
  | nils => exact .nils
  | nilm => exact .nilm
  | nilf => exact .nilf
  | nili => exact .nili
  | emp a => exact .emp a
  | list z xs a n cap b o c hn h1 h2 h3 h4 _ ih =>
    refine .list z xs a n cap b o c hn h1 (fun h => ⟨(h2 h).1, hS _ (h2 h).2⟩) (fun k hk => ?_) h4 ih
    have hp : 0 < xs.length := by
      rcases Nat.eq_zero_or_pos xs.length with h | h
      · simp [h] at hk
      · exact h
    rw [cell_heap (hw b (h2 hp).2)]; exact h3 k hk
  | mapv es r ents clk cs hr hh he hl _ ih => exact .mapv es r ents clk cs (hS _ hr) ((hw _ hr).trans hh) he hl ih
  | ifc t x v _ ih => exact .ifc t x v ih
  | agg cs vs hl ho _ ih => exact .agg cs vs hl ho ih
  | fn f => exact .fn f

theorem VR.mono {w w' : World} {S S' : Sta} {ρ ρ' : Pos} (hS : ∀ g, S g → S' g) (hw : ∀ g, S g → w'.heap[g]? = w.heap[g]?)
    (hρ : ∀ i p, ρ i = some p → ρ' i = some p) (hb : ∀ g, bsz w g ≤ bsz w' g) {x : AV} {v : Value} (h : VR w S ρ x v) : VR w' S' ρ' x v := by
  induction h with
  | unk v => exact .unk v
  | d x v h => exact .d x v (h.mono hS hw)
  | agg cs vs hl ho _ ih => exact .agg cs vs hl ho ih
  | tup cs vs hl _ ih => exact .tup cs vs hl ih
  | ptr i o g β h => exact .ptr i o g β (hρ _ _ h)
  | ept i z k c g β h => exact .ept i z k c g β (hρ _ _ h)
  | cpt cs c b o f hb' hc hd => exact .cpt cs c b o f (hS _ hb') (fun j hj => ⟨(cell_heap (hw b hb')).trans (hc j hj).1, (hc j hj).2⟩) (fun j hj => (hd j hj).mono hS hw)
  | own i z o n k a cap h1 h2 h3 =>
    refine .own i z o n k a cap h1 h2 fun hc => ?_
    obtain ⟨g, β, e1, e2, e3⟩ := h3 hc
    exact ⟨g, β, hρ _ _ e1, e2, Nat.le_trans e3 (hb g)⟩
  | clo f a b va vb ha hb' _ _ ih1 ih2 => exact .clo f a b va vb ha hb' ih1 ih2
  | ifc t x v _ ih => exact .ifc t x v ih
  | mref i g h => exact .mref i g (hρ _ _ h)

theorem RowR.mono {w w' : World} {S S' : Sta} (hS : ∀ g, S g → S' g) (hw : ∀ g, S g → w'.heap[g]? = w.heap[g]?) {c : Array Value} {β z : Nat} {xs : List (List D)}
    (h : RowR w S c β z xs) : RowR w' S' c β z xs := ⟨h.fits, h.wide, h.ones, fun k hk j hj => (h.cell k hk j hj).mono hS hw⟩
theorem MapR.mono {w w' : World} {S S' : Sta} (hS : ∀ g, S g → S' g) (hw : ∀ g, S g → w'.heap[g]? = w.heap[g]?) {cs : List (Int × Value)} {es : List (Int × D)}
    (h : MapR w S cs es) : MapR w' S' cs es := ⟨h.key, fun i hi => (h.val i hi).mono hS hw⟩

theorem lt_of_dbox {H : Heap} {i : Nat} {cs : List D} (h : H.getD i .dead = .dbox cs) : i < H.length := by
  rcases Nat.lt_or_ge i H.length with hl | hl
  · exact hl
  · rw [List.getD_eq_getElem?_getD, List.getElem?_eq_none hl] at h; simp at h
theorem Rel.not_wr {w : World} {S : Sta} {ρ : Pos} {H : Heap} (h : Rel w S ρ H) {g : Nat} (hs : S g) : ¬ Wr ρ H g := by
  rintro ⟨i, β, hm, hr⟩
  have hb := h.blk i
  generalize H.getD i .dead = b at hm hb
  cases b with
  | dead => simp [Blk.mut] at hm
  | frz => simp [Blk.mut] at hm
  | mfz => simp [Blk.mut] at hm
  | box cs => obtain ⟨g', c, e, f, h1, h2, h3, _⟩ := hb; rw [hr] at h1; simp only [Option.some.injEq, Prod.mk.injEq] at h1; exact h3 (h1.1 ▸ hs)
  | dbox cs =>
    rcases hb with hb | ⟨g', c, e, f, h1, h2, h3, _⟩
    · rw [hb] at hr; simp at hr
    · rw [hr] at h1; simp only [Option.some.injEq, Prod.mk.injEq] at h1; exact h3 (h1.1 ▸ hs)
  | arr z xs => exact (hb.2 g β hr).1 hs
  | mp es => obtain ⟨g', c, e, cc, h1, h2, h3, _⟩ := hb; rw [hr] at h1; simp only [Option.some.injEq, Prod.mk.injEq] at h1; exact h3 (h1.1 ▸ hs)

theorem bsz_of_shape {w w' : World} (h : ∀ (g : Nat) (c : Array Value) (e : TypeId) (f : Nat × Nat), w.heap[g]? = some (Obj.cells c e f) → ∃ (c' : Array Value) (f' : Nat × Nat), w'.heap[g]? = some (Obj.cells c' e f') ∧ c'.size = c.size) (g : Nat) : bsz w g ≤ bsz w' g := by
  unfold bsz
  cases hg : w.heap[g]? with
  | none => exact Nat.zero_le _
  | some o =>
    cases o with
    | cells c e f =>
      obtain ⟨c', f', h1, h2⟩ := h g c e f hg
      rw [h1]
      show c.size ≤ c'.size
      omega
    | _ => exact Nat.zero_le _

section
variable {w w' : World} {S S' : Sta} {ρ ρ' : Pos} {H H' : Heap}
theorem Evo.stays (e : Evo w S ρ H w' S' ρ' H') (hr : Rel w S ρ H) {g : Nat} (hs : S g) : w'.heap[g]? = w.heap[g]? := e.frame g (hr.slt g hs) (hr.not_wr hs)
theorem Evo.pos (e : Evo w S ρ H w' S' ρ' H') (hr : Rel w S ρ H) {i : Nat} {p : Nat × Nat} (h : ρ i = some p) : ρ' i = some p := by
  by_cases hi : i < H.length
  · rw [e.ext i hi]; exact h
  · rw [hr.lim i (by omega)] at h; simp at h
theorem Evo.dr (e : Evo w S ρ H w' S' ρ' H') (hr : Rel w S ρ H) {x : D} {v : Value} (h : DR w S x v) : DR w' S' x v := h.mono e.sub fun _ hs => e.stays hr hs
theorem Evo.vr (e : Evo w S ρ H w' S' ρ' H') (hr : Rel w S ρ H) {x : AV} {v : Value} (h : VR w S ρ x v) : VR w' S' ρ' x v :=
  h.mono e.sub (fun _ hs => e.stays hr hs) (fun _ _ hp => e.pos hr hp) (bsz_of_shape e.shape)

theorem Evo.refl (hr : Rel w S ρ H) : Evo w S ρ H w S ρ H :=
  ⟨hr, Nat.le_refl _, fun _ _ => rfl, fun _ _ h => h, fun _ h => h, fun _ h => .inl h, fun _ _ _ => rfl, fun _ h => .inl h, fun _ c _ f h => ⟨c, f, h, rfl⟩, Nat.le_refl _, rfl, rfl, rfl, fun _ _ _ h => h⟩

theorem Evo.trans {w1 w2 : World} {S1 S2 : Sta} {ρ1 ρ2 : Pos} {H1 H2 : Heap} (a : Evo w S ρ H w1 S1 ρ1 H1) (b : Evo w1 S1 ρ1 H1 w2 S2 ρ2 H2) : Evo w S ρ H w2 S2 ρ2 H2 where
  rel := b.rel
  len := Nat.le_trans a.len b.len
  ext i hi := (b.ext i (Nat.lt_of_lt_of_le hi a.len)).trans (a.ext i hi)
  dead i hi hm := b.dead i (Nat.lt_of_lt_of_le hi a.len) (a.dead i hi hm)
  sub g h := b.sub g (a.sub g h)
  new g h := by
    rcases b.new g h with h | h | h
    · exact a.new g h
    · rcases a.own g h with h | h
      · exact .inr (.inl h)
      · exact .inr (.inr h)
    · exact .inr (.inr (Nat.le_trans a.size h))
  frame g hg hw := by
    rw [b.frame g (Nat.lt_of_lt_of_le hg a.size) (fun h => ?_), a.frame g hg hw]
    rcases a.own g h with h | h
    · exact hw h
    · omega
  own g h := by
    rcases b.own g h with h | h
    · exact a.own g h
    · exact .inr (Nat.le_trans a.size h)
  shape g c e f h := by
    obtain ⟨c1, f1, h1, h1'⟩ := a.shape g c e f h
    obtain ⟨c2, f2, h2, h2'⟩ := b.shape g c1 e f1 h1
    exact ⟨c2, f2, h2, h2'.trans h1'⟩
  size := Nat.le_trans a.size b.size
  os := b.os.trans a.os
  tape := b.tape.trans a.tape
  output := b.output.trans a.output
  unb i cs hn hc := by
    have hi : i < H.length := by
      rcases Nat.lt_or_ge i H.length with h | h
      · exact h
      · rw [List.getD_eq_getElem?_getD, List.getElem?_eq_none h] at hc; simp at hc
    exact b.unb i cs ((a.ext i hi).trans hn) (a.unb i cs hn hc)
end

end Go.Ev
