/- Contracts of maps.Clone and bytes.Clone (laid by the shelf's commands) and of maps.Equal at elements of two whole numbers (own walk). -/
import Derived.Shelf.SlMaps.Equal
import Derived.Shelf.SlMaps.Clone
import Derived.Shelf.Bytes.SlClone
import Derived.Test.YtoipfdbdifoecaaDoorEvNatM
import Derived.Test.YtoipfdbdifoecaaDoorEvDis
import Derived.Test.YtoipfdbdifoecaaDoorProg
namespace Go.Proofs
open Go.Shelf Go.RowKit Go.Maps
def addrR : Value → Option (DataW (Int × Int) × List MemPlace)
  | .agg ⟨[.int .i64 a, .int .i64 b]⟩ => some (.held (a, b), [])
  | _ => none
def eqA : DataW (Int × Int) → DataW (Int × Int) → Bool
  | .held a, .held b => decide (a = b)
  | _, _ => false
theorem addrR_inv {c : Value} {y : DataW (Int × Int) × List MemPlace} (h : addrR c = some y) : ∃ a b, c = .agg #[.int .i64 a, .int .i64 b] ∧ y = (.held (a, b), []) := by
  unfold addrR at h
  split at h
  · injection h with h; exact ⟨_, _, rfl, h.symm⟩
  · cases h
theorem Tryd.equalK : Keyed Tryd.prog 3 := int_keyed (q := .i64) Tryd.underlying3
theorem Tryd.addrEq (W : World) (a b c d : Int) : (Op.equal 27 (.agg #[.int .i64 a, .int .i64 b]) (.agg #[.int .i64 c, .int .i64 d])).run Tryd.prog W = .ok (decide ((a, b) = (c, d))) W := by
  have hat : ∀ x y : Int, Ev.At W (fun _ => False) #[.int .i64 x, .int .i64 y] 0 [.int .i64 x, .int .i64 y] := fun x y => ⟨by simp, fun j hj => by
    have : j = 0 ∨ j = 1 := by simp at hj; omega
    rcases this with rfl | rfl <;> exact .int _ _⟩
  have := Ev.flat_struct (P := Tryd.prog) (w := W) (S := fun _ => False) Tryd.underlying27 (by kernel_rfl : Ev.flatK Tryd.prog 50 27 = some [1, 1]) (b := decide ((a, b) = (c, d))) ⟨hat a b, rfl⟩ ⟨hat c d, rfl⟩ (by simp [Ev.sameD, Ev.D.same, Prod.ext_iff, Bool.decide_and]; rfl) 9950
  exact this
theorem Tryd.addrNe (W : World) (a b c d : Int) : (binOp .neq 27 (.agg #[.int .i64 a, .int .i64 b]) (.agg #[.int .i64 c, .int .i64 d])).run Tryd.prog W = .ok (.bool (!decide ((a, b) = (c, d)))) W := by
  simp only [binOp, Sem.run_bind, Tryd.addrEq, Result.andThen_ok, Sem.run_pure]
set_option maxHeartbeats 4000000 in
set_option maxRecDepth 100000 in
theorem Tryd.equal64 (b1 b2 n1 n2 : Nat) (D1 D2 : DataW (Int × Int)) (w : World) (h1 : w.ownsMap Tryd.prog 3 addrR b1 n1 D1) (h2 : w.ownsMap Tryd.prog 3 addrR b2 n2 D2) :
    Calls Tryd.prog 35 #[.map (some b1), .map (some b2)] w fun e w' => e = .returned (.bool (Lib.equalFuncD eqA D1 D2)) ∧ w.grownBy w' none := by
  have l1 := fun ty => h1.len (t := 28) Tryd.underlying28 ty
  have l2 := fun ty => h2.len (t := 28) Tryd.underlying28 ty
  have K := Tryd.equalK
  obtain ⟨es1, rfl, hap, hkeys⟩ := h1.entries K
  have hb2 := h2.lt
  generalize hres : Lib.equalFuncD eqA (.map es1) D2 = res
  have RES : Aside (Lib.equalFuncD eqA (.map es1) D2 = res) := hres
  clear hres
  by_cases hsz : Maps.size (.map es1 : DataW (Int × Int)) = Maps.size D2
  · go_enter Tryd.func35, Tryd.f35
    go_wp2_with (first
      | (at_range; refine wpList_range_own _ rfl _ 28 rfl 3 27 K Tryd.underlying28 addrR b1 n1 _ rfl h1 ?_; intro w0 hrg0 hg0 hs0)
      | go_in)
    go_frame
    go_loopw [18] (fun _ wr => ∃ (left : Lit → Bool) (cnt : Nat), wr.ranges Tryd.prog 3 addrR b1 w.heap.size n1 (.map es1) left cnt ∧ wr.ownsMap Tryd.prog 3 addrR b2 n2 D2 ∧ w.grownBy wr none ∧ Aside (GoodAt eqA es1 D2 left))
      (fun _ wr => wr.rangeLeft b1 w.heap.size)
    case atStart => exact ⟨_, _, hrg0, h2.kept hg0 (by simp), hg0, good_start hkeys D2⟩
    case round =>
      obtain ⟨left, cnt, hrg, h2r, hgw, G⟩ := hrel
      go_wp2_with (first
        | (at_next; refine wpList_next_ranges _ rfl _ rfl 3 K addrR (Value.int .i64) id (fun key _ h => by obtain ⟨x, rfl, _⟩ := Maps.keyOf_int_inv Tryd.underlying3 h; exact ⟨x, rfl⟩) (fun v _ _ => ⟨v, rfl⟩) b1 w.heap.size n1 _ _ _ rfl hrg ?_ ?_)
        | go_in)
      · -- nothing is left
        intro _ hl0
        go_wp2
        go_ret
        exact ⟨by rw [← RES.out, all_good G.out hl0 hsz]; rfl, hgw⟩
      · intro x c kl yd yp w1 cnt1 hkey hlx hv hat hrg1 hlt hg1 hs1 hen
        have hgw1 : w.grownBy w1 none := hgw.andThen hg1 (fun j hj => by cases hj; exact Or.inl (Nat.le_refl _))
        have h2w1 := h2r.kept hg1 (fun e => by have := Option.some.inj e; omega)
        obtain ⟨ca, cb, rfl, ey⟩ := addrR_inv hv
        injection ey with ey1 ey2
        subst ey1
        have HAT : Aside (∀ zd, (DataW.map es1).atKey kl zd = .held (ca, cb)) := hat
        clear hat
        have hz2 : ∀ w, (zeroValue 27).run Tryd.prog w = .ok (.agg #[.int .i64 0, .int .i64 0]) w := Tryd.zeroValue27
        have h2a := fun o => h2w1.alloc o
        cases hh : Maps.has D2 kl
        · have hbad : Lib.goodD eqA D2 (kl, .held (ca, cb)) = false := by unfold Lib.goodD; rw [hh]; rfl
          go_wp2_with (first
            | (at_lookup; refine wpList_lookup_own_ok _ rfl _ _ 28 rfl 3 27 K Tryd.underlying28 addrR (hz2 _) (.held (0, 0)) [] rfl b2 n2 D2 rfl (h2a _) _ kl rfl hkey ?_; intro v2 ps2 hv2; obtain ⟨va, vb, rfl, _⟩ := addrR_inv hv2; rw [hh]; go_frame)
            | go_in)
          go_ret
          refine ⟨by rw [← RES.out, bad_false hap hkeys HAT.out hbad]; rfl, ?_⟩
          exact (hgw1.andThen (World.grownBy_alloc _ _ none) (fun j hj => by cases hj)).andThen (World.grownBy_alloc _ _ none) (fun j hj => by cases hj)
        · cases he : eqA (.held (ca, cb)) (D2.atKey kl (.held (0, 0)))
          · have hbad : Lib.goodD eqA D2 (kl, .held (ca, cb)) = false := by unfold Lib.goodD; rw [hh, atKey_indep hh .nil (.held (0, 0)), he]; rfl
            go_wp2_with (first
              | (at_lookup; refine wpList_lookup_own_ok _ rfl _ _ 28 rfl 3 27 K Tryd.underlying28 addrR (hz2 _) (.held (0, 0)) [] rfl b2 n2 D2 rfl (h2a _) _ kl rfl hkey ?_; intro v2 ps2 hv2; obtain ⟨va, vb, rfl, ey2⟩ := addrR_inv hv2; rw [hh]; go_frame; have hnd : decide ((ca, cb) = (va, vb)) = false := (by injection ey2 with e1 _; rw [e1] at he; exact he); have hc := fun W => Tryd.addrNe W ca cb va vb; rw [hnd] at hc)
              | go_in)
            go_ret
            refine ⟨by rw [← RES.out, bad_false hap hkeys HAT.out hbad]; rfl, ?_⟩
            exact (hgw1.andThen (World.grownBy_alloc _ _ none) (fun j hj => by cases hj)).andThen (World.grownBy_alloc _ _ none) (fun j hj => by cases hj)
          · have hgood : Lib.goodD eqA D2 (kl, .held (ca, cb)) = true := by unfold Lib.goodD; rw [hh, atKey_indep hh .nil (.held (0, 0)), he]; rfl
            go_wp2_with (first
              | (at_lookup; refine wpList_lookup_own_ok _ rfl _ _ 28 rfl 3 27 K Tryd.underlying28 addrR (hz2 _) (.held (0, 0)) [] rfl b2 n2 D2 rfl (h2a _) _ kl rfl hkey ?_; intro v2 ps2 hv2; obtain ⟨va, vb, rfl, ey2⟩ := addrR_inv hv2; rw [hh]; go_frame; have hnd : decide ((ca, cb) = (va, vb)) = true := (by injection ey2 with e1 _; rw [e1] at he; exact he); have hc := fun W => Tryd.addrNe W ca cb va vb; rw [hnd] at hc)
              | go_in)
            have g2 : w1.grownBy ((w1.alloc (Obj.cells #[.int .i64 ca, .int .i64 cb] 27)).alloc (Obj.cells #[.int .i64 va, .int .i64 vb] 27)) none := (World.grownBy_alloc _ _ none).andThen (World.grownBy_alloc _ _ none) (fun j hj => by cases hj)
            have hrg2 := hrg1.kept g2 (by simp) (by simp)
            refine ⟨⟨_, cnt1, hrg2, h2w1.kept g2 (by simp), hgw1.andThen g2 (fun j hj => by cases hj), good_step hap hkeys HAT.out G.out hgood⟩, ?_⟩
            rw [hrg2.left_eq, hrg.left_eq]; exact hlt
  · -- not as many entries
    have hne : ¬ ((Maps.size (.map es1 : DataW (Int × Int)) : Int) = (Maps.size D2 : Int)) := fun e => hsz (by exact_mod_cast e)
    go_enter Tryd.func35, Tryd.f35
    go_wp2
    go_ret
    exact ⟨by rw [← RES.out, sizes_false hsz]; rfl, World.grownBy.refl _ _⟩

/-! ### what a map reads as -/
def dm (p : Int × Int × Int) : Lit × DataW (Int × Int) := (.int .i64 p.1, .held p.2)
def inR (k : Int) : Prop := (Lit.int .i64 k).wf = true

theorem sub_len : ∀ {r l : List (Int × Int × Int)}, Ev.SrtM l → Ev.SrtM r → (∀ p ∈ l, p ∈ r) → l.length ≤ r.length ∧ (l.length = r.length → l = r)
  | [], l, _, _, h => by
    cases l with
    | nil => exact ⟨Nat.le_refl _, fun _ => rfl⟩
    | cons a t => exact absurd (h a (.head _)) (by simp)
  | b :: r, [], _, _, h => ⟨Nat.zero_le _, fun e => by simp at e⟩
  | b :: r, a :: t, hl, hr, h => by
    have hl' := List.pairwise_cons.1 hl
    have hr' := List.pairwise_cons.1 hr
    rcases List.mem_cons.1 (h a (.head _)) with rfl | ha
    · have ht : ∀ p ∈ t, p ∈ r := fun p hp => by
        rcases List.mem_cons.1 (h p (.tail _ hp)) with rfl | h'
        · have := hl'.1 _ hp; omega
        · exact h'
      obtain ⟨h1, h2⟩ := sub_len hl'.2 hr'.2 ht
      exact ⟨by simp; omega, fun e => by rw [h2 (by simpa using e)]⟩
    · have hab := hr'.1 _ ha
      have ht : ∀ p ∈ a :: t, p ∈ r := fun p hp => by
        rcases List.mem_cons.1 (h p hp) with rfl | h'
        · exfalso
          rcases List.mem_cons.1 hp with rfl | hp
          · omega
          · have := hl'.1 _ hp; omega
        · exact h'
      obtain ⟨h1, _⟩ := sub_len hl hr'.2 ht
      exact ⟨by simp at h1 ⊢; omega, fun e => by simp at h1 e; omega⟩

theorem good_dm : ∀ {r : List (Int × Int × Int)} (p : Int × Int × Int), Ev.SrtM r → Lib.goodD eqA (.map (r.map dm)) (dm p) = decide (p ∈ r)
  | [], p, _ => by simp [Lib.goodD, Maps.has, dm]
  | q :: r, p, hr => by
    have hr' := List.pairwise_cons.1 hr
    have ih := good_dm p hr'.2
    by_cases hq : q.1 = p.1
    · have hnr : p ∉ r := fun h => by have := hr'.1 p h; omega
      have e1 : Lib.goodD eqA (.map ((q :: r).map dm)) (dm p) = decide (p.2 = q.2) := by
        simp [Lib.goodD, Maps.has, dm, DataW.atKey, Lit.sameKey, hq, eqA]
      rw [e1]
      have : (p ∈ q :: r) ↔ p.2 = q.2 := by
        constructor
        · intro h
          rcases List.mem_cons.1 h with rfl | h
          · rfl
          · exact absurd h hnr
        · intro h
          have : p = q := Prod.ext hq.symm h
          rw [this]; exact List.mem_cons_self
      simp only [this]
    · have e1 : Lib.goodD eqA (.map ((q :: r).map dm)) (dm p) = Lib.goodD eqA (.map (r.map dm)) (dm p) := by
        simp [Lib.goodD, Maps.has, dm, DataW.atKey, Lit.sameKey, hq]
      rw [e1, ih]
      have : (p ∈ q :: r) ↔ p ∈ r := by
        constructor
        · intro h
          rcases List.mem_cons.1 h with rfl | h
          · exact absurd rfl hq
          · exact h
        · exact fun h => .tail _ h
      simp only [this]

theorem equal_dm {l r : List (Int × Int × Int)} (hl : Ev.SrtM l) (hr : Ev.SrtM r) : Lib.equalFuncD eqA (.map (l.map dm)) (.map (r.map dm)) = decide (l = r) := by
  have e1 : Lib.equalFuncD eqA (.map (l.map dm)) (.map (r.map dm)) = (decide (l.length = r.length) && l.all fun p => decide (p ∈ r)) := by
    simp only [Lib.equalFuncD, Maps.size, List.length_map]
    congr 1
    show (l.map dm).all _ = _
    rw [List.all_map]
    congr 1
    funext p
    exact good_dm p hr
  rw [e1]
  by_cases h : l = r
  · subst h; simp
  · rw [decide_eq_false h]
    by_cases hlen : l.length = r.length
    · rw [decide_eq_true hlen, Bool.true_and]
      rw [Bool.eq_false_iff]
      intro hall
      refine h ((sub_len hl hr fun p hp => ?_).2 hlen)
      have := List.all_eq_true.1 hall p hp
      simpa using this
    · rw [decide_eq_false hlen, Bool.false_and]

theorem rg_kv {P : Program} {k : TypeId} {R : Value → Option (DataW (Int × Int) × List MemPlace)} (l : List MapEntry) : l.map (WideElems.rg P k R) = (l.map fun e => (e.key, e.val)).map fun q => WideElems.rg P k R ⟨q.1, q.2, 0⟩ := by
  rw [List.map_map]; rfl
theorem rg_dm {P : Program} {k : TypeId} {p : Int × Int × Int} (h : keyOf P k (.int .i64 p.1) = some (.int .i64 p.1)) : WideElems.rg P k addrR ⟨(Ev.kv (Ev.addrV p)).1, (Ev.kv (Ev.addrV p)).2, 0⟩ = dm p := by
  simp only [Ev.kv, Ev.addrV, WideElems.rg, WideElems.rd, h]
  rfl
theorem Tryd.owns_of {w : World} {b : Nat} {ents : Array MapEntry} {clk : Nat} {l : List (Int × Int × Int)} (hb : w.heap[b]? = some (.map ents clk)) (h : Ev.Ents ents clk (l.map Ev.addrV)) (hn : l.length ≤ maxLen) (hk : ∀ p ∈ l, inR p.1) :
    w.ownsMap Tryd.prog 3 addrR b l.length (.map (l.map dm)) := by
  have K := Tryd.equalK
  have hrd : ∀ x ∈ ents.toList, ∃ p ∈ l, x.key = .int .i64 p.1 ∧ x.val = .agg #[.int .i64 p.2.1, .int .i64 p.2.2] := fun x hx => by
    have : (x.key, x.val) ∈ Ev.kvs ents := List.mem_map.2 ⟨x, hx, rfl⟩
    obtain ⟨c, hc, hq⟩ := List.mem_map.1 (h.prm.mem_iff.1 this)
    obtain ⟨p, hp, rfl⟩ := List.mem_map.1 hc
    exact ⟨p, hp, (congrArg Prod.fst hq).symm, (congrArg Prod.snd hq).symm⟩
  have key : ∀ p ∈ l, keyOf Tryd.prog 3 (.int .i64 p.1) = some (.int .i64 p.1) := fun p hp => Maps.keyOf_int_mk Tryd.underlying3 (hk p hp)
  have hsz : ents.size = l.length := by simpa using h.len
  have F : WideElems.Fit Tryd.prog 3 addrR ents clk := by
    refine ⟨by rw [hsz]; exact hn, h.stm, fun x hx => ?_⟩
    obtain ⟨p, hp, e1, e2⟩ := hrd x hx
    refine ⟨dm p, ?_⟩
    simp only [WideElems.rd, e1, e2, key p hp]
    rfl
  refine ⟨ents, clk, hb, F, Nat.le_of_eq hsz, ?_⟩
  congr 1
  have hp1 : (ents.toList.map (WideElems.rg Tryd.prog 3 addrR)).Perm (l.map dm) := by
    rw [rg_kv]
    refine (h.prm.map _).trans ?_
    rw [List.map_map, List.map_map]
    refine List.Perm.of_eq (List.map_congr_left fun p hp => ?_)
    have := rg_dm (key p hp)
    simp only [Function.comp_apply]
    exact this
  have hsrt : Ev.SrtM l := by
    have := h.srt
    unfold Ev.SrtM at this ⊢
    rw [List.pairwise_map] at this
    exact this
  refine (ChangeMaps.eq_of_perm_sorted ((WideShapes.sorted_perm _).trans hp1) (Maps.sorted_sorted K.one _ (Maps.fit_keys F) (Maps.fit_apart K F)) ?_).symm
  rw [List.pairwise_map]
  exact hsrt.imp fun h => by simpa [dm, Lit.before] using h


section nilcases
set_option maxHeartbeats 4000000
set_option maxRecDepth 100000
theorem Tryd.equalNil1 (p2 : Option Nat) (D2 : DataW (Int × Int)) (w : World) (h2 : SrcOf Tryd.prog 3 addrR w p2 D2) :
    Calls Tryd.prog 35 #[.map none, .map p2] w fun e w' => e = .returned (.bool (Lib.equalFuncD eqA .nil D2)) ∧ w.grownBy w' none := by
  have l1 : ∀ ty, (Builtin.len_ #[28] ty #[.map none]).run Tryd.prog w = .ok (.int .i64 0) w := fun ty => Maps.len_nil Tryd.underlying28 ty
  have l2 := fun ty => AnyEq.len_src_Equal h2 (t := 28) Tryd.underlying28 ty
  have hrg := run_range_nilMap (P := Tryd.prog) w 28 _ _ Tryd.underlying28
  have hnx : ∀ ty, (Instr.next (.pointer (some ⟨w.heap.size, 0, none⟩)) false ty).run Tryd.prog (w.alloc (.mapIter none 0 #[] 0)) = _ := fun ty => run_next_nilMap _ ty 0 0 #[]
  clear h2
  generalize hres : Lib.equalFuncD eqA .nil D2 = res
  have RES : Aside (Lib.equalFuncD eqA .nil D2 = res) := hres
  clear hres
  by_cases hs : Maps.size D2 = 0
  · rw [hs] at l2
    go_enter Tryd.func35, Tryd.f35
    go_wp2
    refine wp_loop_rounds 1 ?_
    rw [rounds_succ]
    go_wp2
    go_ret
    exact ⟨by rw [← RES.out, none_true rfl hs]; rfl, World.grownBy_alloc w _ none⟩
  · have hne : ¬ ((0 : Int) = (Maps.size D2 : Int)) := fun e => hs (by exact_mod_cast e.symm)
    go_enter Tryd.func35, Tryd.f35
    go_wp2
    go_ret
    exact ⟨by rw [← RES.out, sizes_false (D1 := .nil) (fun e => hs e.symm)]; rfl, World.grownBy.refl _ _⟩
set_option maxRecDepth 100000
theorem Tryd.equalNil2 (b1 n1 : Nat) (D1 : DataW (Int × Int)) (w : World) (h1 : w.ownsMap Tryd.prog 3 addrR b1 n1 D1) :
    Calls Tryd.prog 35 #[.map (some b1), .map none] w fun e w' => e = .returned (.bool (Lib.equalFuncD eqA D1 .nil)) ∧ w.grownBy w' none := by
  have K := Tryd.equalK
  have l1 := fun ty => h1.len (t := 28) Tryd.underlying28 ty
  have l2 : ∀ ty, (Builtin.len_ #[28] ty #[.map none]).run Tryd.prog w = .ok (.int .i64 0) w := fun ty => Maps.len_nil Tryd.underlying28 ty
  generalize hres : Lib.equalFuncD eqA D1 .nil = res
  have RES : Aside (Lib.equalFuncD eqA D1 .nil = res) := hres
  clear hres
  by_cases hs : Maps.size D1 = 0
  · rw [hs] at l1
    go_enter Tryd.func35, Tryd.f35
    go_wp2_with (first
      | (at_range; refine wpList_range_own _ rfl _ 28 rfl 3 27 K Tryd.underlying28 addrR b1 n1 _ rfl h1 ?_; intro w0 hrg0 hg0 hs0)
      | go_in)
    go_frame
    rw [hs] at hrg0
    refine wp_loop_rounds 1 ?_
    rw [rounds_succ]
    go_wp2_with (first
      | (at_next; refine wpList_next_ranges _ rfl _ rfl 3 K addrR id id (fun key _ _ => ⟨key, rfl⟩) (fun v _ _ => ⟨v, rfl⟩) b1 w.heap.size n1 _ _ _ rfl hrg0 ?_ ?_)
      | go_in)
    intros
    go_wp2
    go_ret
    exact ⟨by rw [← RES.out, none_true hs rfl]; rfl, hg0⟩
  · have hne : ¬ ((Maps.size D1 : Int) = 0) := fun e => hs (by exact_mod_cast e)
    go_enter Tryd.func35, Tryd.f35
    go_wp2
    go_ret
    exact ⟨by rw [← RES.out, sizes_false (D2 := .nil) hs]; rfl, World.grownBy.refl _ _⟩
end nilcases
theorem equal_nil_l (r : List (Int × Int × Int)) : Lib.equalFuncD eqA .nil (.map (r.map dm)) = decide ([] = r) := by
  cases r with
  | nil => rfl
  | cons q r => simp [Lib.equalFuncD, Maps.size]
theorem equal_nil_r (r : List (Int × Int × Int)) : Lib.equalFuncD eqA (.map (r.map dm)) .nil = decide (r = []) := by
  cases r with
  | nil => rfl
  | cons q r => simp [Lib.equalFuncD, Maps.size]
theorem srt_of {ents : Array MapEntry} {clk : Nat} {l : List (Int × Int × Int)} (h : Ev.Ents ents clk (l.map Ev.addrV)) : Ev.SrtM l := by
  have := h.srt
  unfold Ev.SrtM at this ⊢
  rw [List.pairwise_map] at this
  exact this
theorem Tryd.equalAddr (w : World) (p q : Option Nat) (l r : List (Int × Int × Int)) (h1 : Ev.MapIs w p l) (h2 : Ev.MapIs w q r) (n1 : l.length ≤ 1000000) (n2 : r.length ≤ 1000000) (k1 : ∀ x ∈ l, inR x.1) (k2 : ∀ x ∈ r, inR x.1) :
    Calls Tryd.prog 35 #[.map p, .map q] w fun e w' => e = .returned (.bool (decide (l = r))) ∧ Below w.heap.size w w' := by
  have n1 : l.length ≤ maxLen := by unfold maxLen; omega
  have n2 : r.length ≤ maxLen := by unfold maxLen; omega
  have up : ∀ {res : Bool}, (Calls Tryd.prog 35 #[.map p, .map q] w fun e w' => e = .returned (.bool res) ∧ w.grownBy w' none) → res = decide (l = r) → Calls Tryd.prog 35 #[.map p, .map q] w fun e w' => e = .returned (.bool (decide (l = r))) ∧ Below w.heap.size w w' := fun h e => h.mono fun e' w' ⟨he, hg⟩ => by
    subst e
    exact ⟨he, (Below.refl _ w).grown hg (Nat.le_refl _) (fun j hj => by cases hj)⟩
  rcases h1 with ⟨rfl, rfl⟩ | ⟨b1, e1, c1, rfl, hb1, m1⟩
  · rcases h2 with ⟨rfl, rfl⟩ | ⟨b2, e2, c2, rfl, hb2, m2⟩
    · exact up (Tryd.equalNil1 none .nil w (.inl ⟨rfl, rfl⟩)) rfl
    · exact up (Tryd.equalNil1 (some b2) _ w (.inr ⟨b2, _, rfl, Tryd.owns_of hb2 m2 n2 k2⟩)) (equal_nil_l r)
  · rcases h2 with ⟨rfl, rfl⟩ | ⟨b2, e2, c2, rfl, hb2, m2⟩
    · exact up (Tryd.equalNil2 b1 _ _ w (Tryd.owns_of hb1 m1 n1 k1)) (equal_nil_r l)
    · exact up (Tryd.equal64 b1 b2 _ _ _ _ w (Tryd.owns_of hb1 m1 n1 k1) (Tryd.owns_of hb2 m2 n2 k2)) (equal_dm (srt_of m1) (srt_of m2))

theorem wf_small {k : Int} (h : 0 ≤ k ∧ k ≤ 1000000000) : inR k := by
  have h1 : (-9223372036854775808 : Int) ≤ k := by omega
  have h2 : k ≤ 9223372036854775807 := by omega
  unfold inR
  simp [Lit.wf, IntKind.min, IntKind.max, IntKind.signed, IntKind.bits]
  omega
theorem Tryd.equalN : Ev.CallSnd Tryd.prog (Ev.natME 35) := Ev.natME_snd ⟨_, Tryd.func35, by kernel_rfl, of_decide_eq_true (by kernel_rfl)⟩ fun w p q l r h1 h2 h3 h4 => Tryd.equalAddr w p q l r h1 h2 h3.1 h4.1 (fun x hx => wf_small (h3.2 x hx)) (fun x hx => wf_small (h4.2 x hx))

def Tryd.cloneM_ren : Ren := ⟨fun | 5 => 33 | 7 => 41 | n => n, fun | 23 => 28 | 25 => 3 | 3 => 27 | 4 => 4 | 20 => 20 | n => n, fun n => n⟩
theorem Tryd.cloneM : SlLaysW.n5 Tryd.prog Tryd.cloneM_ren := {
  mixed := by kernel_rfl
  f5 := ⟨"maps.Clone[map[int]spence/api.Addr,int,spence/api.Addr]", by decide, Tryd.func33.trans (congrArg some (by kernel_rfl))⟩
  f7 := Tryd.func41.trans (congrArg some (by kernel_rfl))
  t4 := Tryd.underlying4
  a4 := Tryd.isAgg4
  z4 := Tryd.sizeOf4
  v4 := Tryd.zeroValue4
  t20 := Tryd.underlying20
  a20 := Tryd.isAgg20
  z20 := Tryd.sizeOf20
  v20 := Tryd.zeroValue20
  t23 := Tryd.underlying28
  a23 := Tryd.isAgg28
  z23 := Tryd.sizeOf28
  v23 := Tryd.zeroValue28 }
theorem Tryd.cloneN : Ev.CallSnd Tryd.prog (Ev.natMC 33) := Ev.natMC_snd ⟨_, Tryd.func33, by kernel_rfl, of_decide_eq_true (by kernel_rfl)⟩ (AnyW.maps_Clone_nil Tryd.cloneM) (AnyW.maps_Clone Tryd.cloneM)

end Go.Proofs
