/- Operations on maps. Own work. -/
import Derived.Test.YtbcpffhialoliaaEvSnd
namespace Go.Ev
open Go
set_option linter.unusedVariables false
set_option linter.unusedSimpArgs false
section
variable {w : World} {S : Sta} {ρ : Pos} {H : Heap} {P : Program}

theorem mapA_inv (hr : Rel w S ρ H) {x : AV} {v : Value} {es : List (Int × D)} (hv : VR w S ρ x v) (h : mapA H x = some es) :
    (v = .map none ∧ es = []) ∨ ∃ g ents clk cs, v = .map (some g) ∧ w.heap[g]? = some (.map ents clk) ∧ Ents ents clk cs ∧ MapR w S cs es := by
  unfold mapA at h
  split at h
  · injection h with h; cases hv.dr; exact .inl ⟨rfl, h.symm⟩
  · injection h with h; subst h
    cases hv.dr with
    | mapv _ r ents clk cs h1 h2 h3 h4 h5 => exact .inr ⟨r, ents, clk, cs, rfl, h2, h3, h4, h5⟩
  · rename_i i
    have hb := hr.blk i
    have hg : ∃ g, v = .map (some g) ∧ ρ i = some (g, 0) := by cases hv with | mref _ g h => exact ⟨g, rfl, h⟩
    obtain ⟨g, rfl, hg⟩ := hg
    split at h
    · rename_i es' he
      injection h with h; subst h
      rw [he] at hb
      obtain ⟨g', ents, clk, cs, h1, h2, h3, h4, h5⟩ := hb
      rw [hg] at h1; injection h1 with h1; injection h1 with h1 _; subst h1
      exact .inr ⟨g, ents, clk, cs, rfl, h2, h4, h5⟩
    · rename_i es' he
      injection h with h; subst h
      rw [he] at hb
      obtain ⟨g', ents, clk, cs, h1, h2, h3, h4, h5⟩ := hb
      rw [hg] at h1; injection h1 with h1; injection h1 with h1 _; subst h1
      exact .inr ⟨g, ents, clk, cs, rfl, h2, h4, h5⟩
    · simp at h
  · simp at h

theorem asI64_inv {x : AV} {v : Value} {n : Int} (hv : VR w S ρ x v) (h : x.asI64 = some n) : v = .int .i64 n := by
  unfold AV.asI64 at h
  split at h
  · injection h with h; subst h; cases hv.dr; rfl
  · simp at h

theorem MapR.cons {c : Int × Value} {cs : List (Int × Value)} {e : Int × D} {es : List (Int × D)} (h : MapR w S (c :: cs) (e :: es)) : e.1 = c.1 ∧ DR w S e.2 c.2 ∧ MapR w S cs es := by
  have hk := h.key
  simp only [List.map_cons, List.cons.injEq] at hk
  exact ⟨hk.1, by simpa using h.val 0 (by simp), hk.2, fun i hi => by simpa using h.val (i + 1) (by simpa using hi)⟩
theorem MapR.mk' {c : Int × Value} {cs : List (Int × Value)} {e : Int × D} {es : List (Int × D)} (h1 : e.1 = c.1) (h2 : DR w S e.2 c.2) (h3 : MapR w S cs es) : MapR w S (c :: cs) (e :: es) :=
  ⟨by simp [h1, h3.key], fun i hi => by
    cases i with
    | zero => simpa using h2
    | succ i => simpa using h3.val i (by simpa using hi)⟩
theorem MapR.nil : MapR w S [] [] := ⟨rfl, fun i hi => by simp at hi⟩
theorem MapR.len {cs : List (Int × Value)} {es : List (Int × D)} (h : MapR w S cs es) : es.length = cs.length := by simpa using congrArg List.length h.key

theorem find_rel (n : Int) : ∀ {cs : List (Int × Value)} {es : List (Int × D)}, MapR w S cs es → (findM n es = none ∧ findM n cs = none) ∨ ∃ d v, findM n es = some d ∧ findM n cs = some v ∧ DR w S d v
  | [], [], h => .inl ⟨rfl, rfl⟩
  | [], _ :: _, h => by simpa using h.key
  | _ :: _, [], h => by simpa using h.key
  | (a, v) :: cs, (b, d) :: es, h => by
    obtain ⟨h1, h2, h3⟩ := h.cons
    simp only at h1 h2
    subst h1
    simp only [findM]
    by_cases e : b = n
    · rw [if_pos e, if_pos e]; exact .inr ⟨d, v, rfl, rfl, h2⟩
    · rw [if_neg e, if_neg e]; exact find_rel n h3
theorem put_rel (n : Int) {x : D} {u : Value} (hx : DR w S x u) : ∀ {cs : List (Int × Value)} {es : List (Int × D)}, MapR w S cs es → MapR w S (putM n u cs) (putM n x es)
  | [], [], h => .mk' rfl hx .nil
  | [], _ :: _, h => by simpa using h.key
  | _ :: _, [], h => by simpa using h.key
  | (a, v) :: cs, (b, d) :: es, h => by
    obtain ⟨h1, h2, h3⟩ := h.cons
    simp only at h1 h2
    subst h1
    simp only [putM]
    by_cases e : n < b
    · rw [if_pos e, if_pos e]; exact .mk' rfl hx h
    · rw [if_neg e, if_neg e]
      by_cases e2 : n = b
      · rw [if_pos e2, if_pos e2]; exact .mk' rfl hx h3
      · rw [if_neg e2, if_neg e2]; exact .mk' rfl h2 (put_rel n hx h3)
theorem del_rel (n : Int) : ∀ {cs : List (Int × Value)} {es : List (Int × D)}, MapR w S cs es → MapR w S (delM n cs) (delM n es)
  | [], [], h => .nil
  | [], _ :: _, h => by simpa using h.key
  | _ :: _, [], h => by simpa using h.key
  | (a, v) :: cs, (b, d) :: es, h => by
    obtain ⟨h1, h2, h3⟩ := h.cons
    simp only at h1 h2
    subst h1
    simp only [delM]
    by_cases e : b = n
    · rw [if_pos e, if_pos e]; exact h3
    · rw [if_neg e, if_neg e]; exact .mk' rfl h2 (del_rel n h3)

theorem avD_sound {d : D} {v : Value} (h : DR w S d v) : VR w S ρ (avD d) v := by
  cases h with
  | agg ds vs hl ho hh =>
    refine .agg _ _ (by simpa using hl) (fun j hj => ho j (by simpa using hj)) (fun j hj => ?_)
    have hj' : j < ds.length := by simpa using hj
    rw [getD_map' _ _ _ D.nilp _ hj']
    exact .d _ _ (hh j hj')
  | bool b => exact .d _ _ (.bool b)
  | int k n => exact .d _ _ (.int k n)
  | str s => exact .d _ _ (.str s)
  | nilp => exact .d _ _ .nilp
  | nils => exact .d _ _ .nils
  | nilm => exact .d _ _ .nilm
  | nilf => exact .d _ _ .nilf
  | nili => exact .d _ _ .nili
  | emp a => exact .d _ _ (.emp a)
  | list z xs a n cap b o c h0 h1 h2 h3 h4 h5 => exact .d _ _ (.list z xs a n cap b o c h0 h1 h2 h3 h4 h5)
  | mapv es r ents clk cs h1 h2 h3 h4 h5 => exact .d _ _ (.mapv es r ents clk cs h1 h2 h3 h4 h5)
  | ifc t x v h => exact .d _ _ (.ifc t x v h)
  | fn f => exact .d _ _ (.fn f)
theorem toD_sound {x : AV} {v : Value} {d : D} (hv : VR w S ρ x v) (h : x.toD = some d) : DR w S d v := by
  unfold AV.toD at h
  split at h
  · injection h with h; subst h; exact hv.dr
  · rename_i cs
    split at h
    · rename_i ds hds
      injection h with h; subst h
      obtain ⟨vs, rfl, h1, h2, h3⟩ := agg_inv hv
      obtain ⟨e1, e2⟩ := plainD_get hds
      refine .agg _ _ (by omega) (fun j hj => h2 j (by omega)) (fun j hj => ?_)
      have := h3 j (by omega)
      rw [e2 j hj] at this
      exact this.dr
    · simp at h
  · simp at h

theorem gives_mmk (hr : Rel w S ρ H) (t : TypeId) : Gives P w S ρ H (.mref H.length) (H ++ [.mp []]) (Instr.makeMap t none) := by
  refine ⟨.map (some w.heap.size), w.alloc (.map #[] 0), S, posNew ρ H.length w.heap.size 0, ?_, evo_new hr (.map #[] 0) (.mp []) fun h1 h2 h3 _ _ => ⟨w.heap.size, #[], 0, [], h2, h1, h3, Ents.empty, .nil⟩, .mref _ _ (posNew_same ..)⟩
  simp [Instr.makeMap, newObj, Sem.run]

theorem gives_mget (hr : Rel w S ρ H) {t kt et : TypeId} {i : TypeInfo} (ht : P.underlying t = some (.map kt et)) (hk : P.underlying kt = some (.int .i64)) (hi : P.info? et = some i) {zv : Value} (hz : i.zero = some zv) {z : AV} (hzv : cV zv = some z)
    {x k : AV} {vx vk : Value} (hx : VR w S ρ x vx) (hkv : VR w S ρ k vk) {es : List (Int × D)} {n : Int} (h1 : mapA H x = some es) (h2 : k.asI64 = some n) (ok : Bool) :
    Gives P w S ρ H (getA es n z ok) H (Instr.lookup t vx vk ok) := by
  have hzr : ∀ w, (zeroValue et).run P w = .ok zv w := fun w => run_zeroValue hi hz
  have hzz : VR w S ρ z zv := cV_sound hzv
  rw [asI64_inv hkv h2]
  have pair : ∀ (a : AV) (u : Value) (b : Bool), VR w S ρ a u → VR w S ρ (if ok then .tup [a, .d (.bool b)] else a) (if ok then .tuple #[u, .bool b] else u) := by
    intro a u b h
    cases ok
    · exact h
    · refine .tup _ _ rfl fun j hj => ?_
      have : j = 0 ∨ j = 1 := by simp at hj; omega
      rcases this with rfl | rfl
      · exact h
      · exact .d _ _ (.bool b)
  rcases mapA_inv hr hx h1 with ⟨rfl, rfl⟩ | ⟨g, ents, clk, cs, rfl, hb, he, hm⟩
  · exact gives_same hr (run_lookup_nil ht hk hzr n ok) (pair _ _ _ hzz)
  · refine gives_same hr (run_lookup_ents ht hk hzr hb he n ok) ?_
    unfold getA
    rcases find_rel n hm with ⟨e1, e2⟩ | ⟨d, v, e1, e2, e3⟩
    · rw [e1, e2]; exact pair _ _ _ hzz
    · rw [e1, e2]; exact pair _ _ _ (avD_sound e3)

theorem evo_setmap (hr : Rel w S ρ H) {i g : Nat} {es : List (Int × D)} (hb : H.getD i .dead = .mp es) (hi : ρ i = some (g, 0)) {ents ents' : Array MapEntry} {clk clk' : Nat} (hg : w.heap[g]? = some (.map ents clk)) (hs : ¬ S g)
    {cs : List (Int × Value)} {es' : List (Int × D)} (he : Ents ents' clk' cs) (hm : MapR w S cs es') : Evo w S ρ H (setBlk w g (.map ents' clk')) S ρ (H.set i (.mp es')) := by
  refine evo_write hr (by rw [hb]; rfl) hi hg (fun c e f h => by simp at h) hs rfl fun w' _ h1 h2 _ => ⟨g, ents', clk', cs, hi, h2, hs, he, hm.mono (fun _ h => h) fun k hk => h1 k fun e => hs (e ▸ hk)⟩

theorem mput_sound (hr : Rel w S ρ H) {t kt et : TypeId} (ht : P.underlying t = some (.map kt et)) (hk : P.underlying kt = some (.int .i64)) {x k v : AV} {vx vk vv : Value} (hx : VR w S ρ x vx) (hkv : VR w S ρ k vk) (hv : VR w S ρ v vv) {n : Int} (h2 : k.asI64 = some n)
    {H' : Heap} (h : mputA H x n v = some H') : ∃ w' S', (Instr.mapUpdate t vx vk vv).run P w = .ok () w' ∧ Evo w S ρ H w' S' ρ H' := by
  rw [asI64_inv hkv h2]
  unfold mputA at h
  split at h
  · rename_i i d hd
    split at h
    · rename_i es hb
      injection h with h; subst h
      obtain ⟨S1, e1⟩ := evo_freezeAll (ρ := ρ) v.owns hr
      have hvd : DR w S1 d vv := toD_sound (view_sound e1.rel (e1.vr hr hv) fun j hj => ⟨fun z xs hb => freezeAll_mem _ _ _ _ _ hj hb, fun es hb => freezeAll_mem_m _ _ _ _ hj hb⟩) hd
      have hbl := e1.rel.blk i
      rw [hb] at hbl
      obtain ⟨g', ents, clk, cs, q1, q2, q3, q4, q5⟩ := hbl
      have hg : vx = .map (some g') := by cases hx with | mref _ g hh => rw [hh] at q1; injection q1 with q1; injection q1 with q1 _; rw [q1]
      subst hg
      obtain ⟨ents', clk', r1, r2⟩ := run_update_ents ht hk q2 q4 n vv
      exact ⟨_, S1, r1, e1.trans (evo_setmap e1.rel hb q1 q2 q3 r2 (put_rel n hvd q5))⟩
    · simp at h
  · simp at h

theorem gives_mdel (hr : Rel w S ρ H) {t kt et ty : TypeId} {ats : Array TypeId} (hat : ats[0]? = some t) (ht : P.underlying t = some (.map kt et)) (hk : P.underlying kt = some (.int .i64)) {x k : AV} {vx vk : Value} (hx : VR w S ρ x vx) (hkv : VR w S ρ k vk) {n : Int} (h2 : k.asI64 = some n)
    {H' : Heap} (h : mdelA H x n = some H') : Gives P w S ρ H (.tup []) H' (Builtin.delete_ ats ty #[vx, vk]) := by
  rw [asI64_inv hkv h2]
  unfold mdelA at h
  split at h
  · rename_i i
    split at h
    · rename_i es hb
      injection h with h; subst h
      have hbl := hr.blk i
      rw [hb] at hbl
      obtain ⟨g', ents, clk, cs, q1, q2, q3, q4, q5⟩ := hbl
      have hg : vx = .map (some g') := by cases hx with | mref _ g hh => rw [hh] at q1; injection q1 with q1; injection q1 with q1 _; rw [q1]
      subst hg
      obtain ⟨ents', r1, r2⟩ := run_delete_ents ht hk q2 q4 n ats hat ty
      exact ⟨_, _, S, ρ, r1, evo_setmap hr hb q1 q2 q3 r2 (del_rel n q5), .tup _ _ rfl fun j hj => by simp at hj⟩
    · simp at h
  · simp at h
end
end Go.Ev
