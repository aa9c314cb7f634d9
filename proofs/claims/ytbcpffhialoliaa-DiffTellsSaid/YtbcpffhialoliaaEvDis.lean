/- All operations: the model's do what the evaluator says. Own work. -/
import Derived.Test.YtbcpffhialoliaaEvMop
import Derived.Test.YtbcpffhialoliaaEvCpy
namespace Go.Ev
open Go
set_option linter.unusedVariables false
set_option linter.unusedSimpArgs false
section
variable {w : World} {S : Sta} {ρ : Pos} {H : Heap} {P : Program} {call : Callee} {st : St} {a : Act}

theorem strip_inv {o' q : O} (h : o'.strip = q) : o' = q ∨ (∃ f xs r, o' = .call f xs r ∧ q = .call f xs 0) ∨ (∃ x xs r, o' = .callv x xs r ∧ q = .callv x xs 0) := by
  cases o' <;> simp only [O.strip] at h <;> first | exact .inl h | exact .inr (.inl ⟨_, _, _, rfl, h.symm⟩) | exact .inr (.inr ⟨_, _, _, rfl, h.symm⟩)
theorem strip_plain {o' q : O} (h : o'.strip = q) (h1 : ∀ f xs r, q ≠ .call f xs r) (h2 : ∀ x xs r, q ≠ .callv x xs r) : o' = q := by
  rcases strip_inv h with h | ⟨f, xs, r, _, h⟩ | ⟨x, xs, r, _, h⟩
  · exact h
  · exact absurd h (h1 _ _ _)
  · exact absurd h (h2 _ _ _)

theorem eq_run {t : TypeId} {v c : Value} {b : Bool} (h : ∀ n, (Op.equalIn (n + 1) t v c).run P w = .ok b w) : (Op.equal t v c).run P w = .ok b w := h 9999
theorem eq_pn {t e : TypeId} (hu : P.underlying t = some (.pointer e)) : (Op.equal t (.pointer none) (.pointer none)).run P w = .ok true w := eq_run fun n => by simp [Op.equalIn, run_underlying hu]
theorem eq_ps {t e : TypeId} (hu : P.underlying t = some (.pointer e)) (a : Addr) : (Op.equal t (.pointer (some a)) (.pointer none)).run P w = .ok false w := eq_run fun n => by simp [Op.equalIn, run_underlying hu]
theorem eq_sn {t e : TypeId} (hu : P.underlying t = some (.slice e)) : (Op.equal t (.slice none 0 0) (.slice none 0 0)).run P w = .ok true w := eq_run fun n => by simp [Op.equalIn, run_underlying hu]
theorem eq_ss {t e : TypeId} (hu : P.underlying t = some (.slice e)) (a : Addr) (n c : Nat) : (Op.equal t (.slice (some a) n c) (.slice none 0 0)).run P w = .ok false w := eq_run fun n => by simp [Op.equalIn, run_underlying hu]
theorem eq_mn {t k e : TypeId} (hu : P.underlying t = some (.map k e)) : (Op.equal t (.map none) (.map none)).run P w = .ok true w := eq_run fun n => by simp [Op.equalIn, run_underlying hu]
theorem eq_ms {t k e : TypeId} (hu : P.underlying t = some (.map k e)) (r : Nat) : (Op.equal t (.map (some r)) (.map none)).run P w = .ok false w := eq_run fun n => by simp [Op.equalIn, run_underlying hu]
theorem eq_fn {t : TypeId} {x y : Array TypeId} {z : Bool} (hu : P.underlying t = some (.func x y z)) : (Op.equal t .nilFunc .nilFunc).run P w = .ok true w := eq_run fun n => by simp [Op.equalIn, run_underlying hu]
theorem eq_fs {t : TypeId} {x y : Array TypeId} {z : Bool} (hu : P.underlying t = some (.func x y z)) (f : Fn) (a b : Array Value) : (Op.equal t (.func f a b) .nilFunc).run P w = .ok false w := eq_run fun n => by simp [Op.equalIn, run_underlying hu]
theorem eq_in {t : TypeId} {ms : Array (String × TypeId)} (hu : P.underlying t = some (.interface ms)) : (Op.equal t .nilIface .nilIface).run P w = .ok true w := eq_run fun n => by simp [Op.equalIn, run_underlying hu]
theorem eq_is {t : TypeId} {ms : Array (String × TypeId)} (hu : P.underlying t = some (.interface ms)) (u : TypeId) (x : Value) : (Op.equal t (.iface u x) .nilIface).run P w = .ok false w := eq_run fun n => by simp [Op.equalIn, run_underlying hu]

/-- Held against nil. -/
theorem gives_isn (hr : Rel w S ρ H) {t : TypeId} {d : TypeDesc} (hu : P.underlying t = some d) {c : Value} {k : Nat} (hc : nilK d c = some k) {x : AV} {v : Value} {b : Bool} (hv : VR w S ρ x v) (h : x.isNil k = some b) (X : Operand) :
    Gives P w S ρ H (.d (.bool b)) H (do eqGuard .eql t X (.const c) v c; binOp .eql t v c) ∧ Gives P w S ρ H (.d (.bool !b)) H (do eqGuard .neq t X (.const c) v c; binOp .neq t v c) := by
  have key : (eqGuard .eql t X (.const c) v c).run P w = .ok () w ∧ (eqGuard .neq t X (.const c) v c).run P w = .ok () w ∧ (Op.equal t v c).run P w = .ok b w ∧ (binOp .eql t v c = do pure (.bool (← Op.equal t v c))) ∧ (binOp .neq t v c = do pure (.bool (!(← Op.equal t v c)))) := by
    by_cases hsl : (∃ a n cap, v = .slice (some a) n cap ∧ k = 1 ∧ b = false)
    · obtain ⟨a, n, cap, rfl, rfl, rfl⟩ := hsl
      have hd : ∃ e, d = .slice e ∧ c = .slice none 0 0 := by
        unfold nilK at hc
        split at hc <;> first | (simp at hc; done) | exact ⟨_, rfl, rfl⟩
      obtain ⟨e, rfl, rfl⟩ := hd
      exact ⟨by cases X <;> simp [eqGuard], by cases X <;> simp [eqGuard], eq_ss hu a n cap, rfl, rfl⟩
    have nl : ∀ z xs, x = .d (.list z xs) → False := by
      rintro z xs rfl
      cases k with
      | zero => simp [AV.isNil] at h
      | succ k =>
        cases k with
        | succ k => simp [AV.isNil] at h
        | zero =>
          simp only [AV.isNil] at h
          split at h
          · rename_i hp
            injection h with h
            cases hv.dr with
            | list _ _ a n cap bb o cc h1 h2 h3 h4 h5 h6 => obtain ⟨ha, _⟩ := h3 hp; subst ha; exact hsl ⟨_, _, _, rfl, rfl, h.symm⟩
          · simp at h
    have no : ∀ i z o n q, x = .own i z o n q → False := by
      rintro i z o n q rfl
      cases k with
      | zero => simp [AV.isNil] at h
      | succ k =>
        cases k with
        | succ k => simp [AV.isNil] at h
        | zero =>
          simp only [AV.isNil] at h
          split at h
          · rename_i hp
            injection h with h
            cases hv with
            | own _ _ _ _ _ a cap h1 h2 h3 => obtain ⟨_, _, _, ha, _⟩ := h3 (by omega); subst ha; exact hsl ⟨_, _, _, rfl, rfl, h.symm⟩
          · simp at h
    unfold nilK at hc
    unfold AV.isNil at h
    split at hc <;> (first | (simp at hc; done) | skip) <;> injection hc with hc <;> subst hc <;> split at h <;> (first | (simp at h; done) | (exfalso; exact nl _ _ rfl) | (exfalso; exact no _ _ _ _ _ rfl) | skip) <;> injection h with h <;> subst h <;>
      first
      | (rename_i e; simp at e; done)
      | (have hd := hv.dr; cases hd; refine ⟨by cases X <;> simp [eqGuard], by cases X <;> simp [eqGuard], by first | exact eq_pn hu | exact eq_ps hu _ | exact eq_sn hu | exact eq_mn hu | exact eq_ms hu _ | exact eq_fn hu | exact eq_fs hu _ _ _ | exact eq_in hu | exact eq_is hu _ _, rfl, rfl⟩)
      | (cases hv; refine ⟨by cases X <;> simp [eqGuard], by cases X <;> simp [eqGuard], by first | exact eq_pn hu | exact eq_ps hu _ | exact eq_sn hu | exact eq_mn hu | exact eq_ms hu _ | exact eq_fn hu | exact eq_fs hu _ _ _ | exact eq_in hu | exact eq_is hu _ _, rfl, rfl⟩)
  obtain ⟨k1, k2, k3, k4, k5⟩ := key
  refine ⟨gives_dat hr (cv := .bool b) ?_ (.bool _), gives_dat hr (cv := .bool !b) ?_ (.bool _)⟩
  · simp only [Sem.run_bind, k1, Result.andThen_ok, k4, k3, Sem.run_pure]
  · simp only [Sem.run_bind, k2, Result.andThen_ok, k5, k3, Sem.run_pure]

theorem plain_sound {x : AV} {v : Value} {us : List D} (hv : VR w S ρ x v) (h : x.plain = some us) : ∃ X : Array Value, v = .agg X ∧ At w S X 0 us ∧ X.size = us.length := by
  unfold AV.plain at h
  split at h
  · rename_i cs
    obtain ⟨vs, rfl, h1, h2, h3⟩ := agg_inv hv
    obtain ⟨e1, e2⟩ := plainD_get h
    refine ⟨vs, rfl, ⟨by omega, fun j hj => ?_⟩, by omega⟩
    have := h3 j (by omega)
    rw [e2 j hj] at this
    rw [Nat.zero_add]; exact this.dr
  · rename_i ds
    injection h with h; subst h
    cases hv.dr with
    | agg _ vs hl ho hh => exact ⟨vs, rfl, ⟨by omega, fun j hj => by rw [Nat.zero_add]; exact hh j hj⟩, by omega⟩
  · simp at h

theorem flat_struct {t : TypeId} {fs : Array Field} {ks : List Nat} (hu : P.underlying t = some (.struct fs)) (hk : flatK P 50 t = some ks) {X Y : Array Value} {us vs : List D} {b : Bool}
    (hx : At w S X 0 us ∧ X.size = us.length) (hy : At w S Y 0 vs ∧ Y.size = vs.length) (h : sameD ks us vs = some b) (n : Nat) : (Op.equalIn (n + 50) t (.agg X) (.agg Y)).run P w = .ok b w := by
  rw [flatK, hu] at hk
  simp only at hk
  split at hk
  · simp at hk
  rename_i hst
  have hfo : P.fieldsOf t = fs := by simp [Program.fieldsOf, hu]
  rw [show n + 50 = (n + 49) + 1 from rfl, run_equalIn_agg w (n + 49) t _ _ (by rw [hfo]; exact hu) (by simpa using hst), hfo]
  exact fields_eq (n + 49) (fun t' ks' hk' hl' o' us' vs' b' hx' hy' hs' => flat_part 49 t' ks' hk' (n + 49) (by omega) _ _ o' us' vs' b' hl' hx' hy' hs') fs.toList 0 ks us vs b hk hx.1 hy.1 h

theorem cNil_inv {d : TypeDesc} {x : X} {op : BinOp} {y : Operand} {q : O} (h : cNil d x op y = some q) : ∃ ne c k, y = .const c ∧ op = (if ne then .neq else .eql) ∧ nilK d c = some k ∧ q = .isn ne k x := by
  unfold cNil at h
  split at h
  · rename_i c
    rw [Option.map_eq_some_iff] at h
    obtain ⟨k, h1, h2⟩ := h
    exact ⟨false, c, k, rfl, rfl, h1, h2.symm⟩
  · rename_i c
    rw [Option.map_eq_some_iff] at h
    obtain ⟨k, h1, h2⟩ := h
    exact ⟨true, c, k, rfl, rfl, h1, h2.symm⟩
  · simp at h

theorem run_mapM_list {α β : Type} (f : α → Sem β) (g : α → β) : ∀ (l : List α), (∀ x ∈ l, (f x).run P w = .ok (g x) w) → (l.mapM f).run P w = .ok (l.map g) w
  | [], _ => by simp
  | x :: l, h => by
    rw [List.mapM_cons]
    simp only [Sem.run_bind, h x (by simp), Result.andThen_ok, run_mapM_list f g l (fun y hy => h y (by simp [hy])), Sem.run_pure, List.map_cons]
theorem run_mapM_arr {α β : Type} (f : α → Sem β) (g : α → β) (l : Array α) (h : ∀ x ∈ l, (f x).run P w = .ok (g x) w) : (l.mapM f).run P w = .ok (l.map g) w := by
  rw [Array.mapM_eq_mapM_toList]
  simp only [Sem.run_map, run_mapM_list f g l.toList (fun x hx => h x (by simpa using hx)), Result.andThen_ok]
  congr 1
  apply Array.ext'
  simp

theorem evO_sound (hcall : CallSnd P call) {o : Oper} {q o' : O} (hc : cO P o = some q) (hst : o'.strip = q) (hr : Rel w S ρ st.h) (hs : SlotsR w S ρ st.s a.tmps) {r : AV} {H' : Heap} (he : evO call st o' = some (r, H')) :
    OpOk P w S ρ st.h r H' o a := by
  have plain : (∀ f xs r, q ≠ .call f xs r) → (∀ x xs r, q ≠ .callv x xs r) → o' = q := strip_plain hst
  have value : ∀ {s : Sem Value}, execOp a.eval o = (do pure (.value (← s))) → Gives P w S ρ st.h r H' s → OpOk P w S ρ st.h r H' o a := fun h g => ok_gives h g
  cases hop : o.op with
  | move x =>
    simp only [cO, hop, Option.map_eq_some_iff] at hc
    obtain ⟨x', hx, rfl⟩ := hc
    obtain rfl := plain (by simp) (by simp)
    simp only [evO, Option.some.injEq, Prod.mk.injEq] at he
    obtain ⟨rfl, rfl⟩ := he
    exact ok_same hr (by simp only [execOp, hop]) (cX_sound hs hx)
  | assign x =>
    simp only [cO, hop, Option.map_eq_some_iff] at hc
    obtain ⟨x', hx, rfl⟩ := hc
    obtain rfl := plain (by simp) (by simp)
    simp only [evO, Option.some.injEq, Prod.mk.injEq] at he
    obtain ⟨rfl, rfl⟩ := he
    exact ok_same hr (by simp only [execOp, hop]) (cX_sound hs hx)
  | pick c x y =>
    simp only [cO, hop] at hc
    split at hc
    case h_2 => simp at hc
    rename_i c' x' y' hc' hx hy
    injection hc with hc; subst hc
    obtain rfl := plain (by simp) (by simp)
    simp only [evO] at he
    split at he
    case h_2 => simp at he
    rename_i t ht
    simp only [Option.some.injEq, Prod.mk.injEq] at he
    obtain ⟨rfl, rfl⟩ := he
    have hcv := asBool_inv (cX_sound hs hc') ht
    refine ok_same hr (v := if t then a.eval x else a.eval y) (by simp only [execOp, hop, hcv, asBool]; rfl) ?_
    cases t
    · exact cX_sound hs hy
    · exact cX_sound hs hx
  | alloc e =>
    simp only [cO, hop, Option.map_eq_some_iff] at hc
    obtain ⟨zs, hz, rfl⟩ := hc
    obtain rfl := plain (by simp) (by simp)
    simp only [evO, Option.some.injEq, Prod.mk.injEq] at he
    obtain ⟨rfl, rfl⟩ := he
    exact value (by simp only [execOp, hop]) (gives_alloc hr hz)
  | box e x =>
    simp only [cO, hop, Option.map_eq_some_iff] at hc
    obtain ⟨x', hx, rfl⟩ := hc
    obtain rfl := plain (by simp) (by simp)
    simp only [evO] at he
    split at he
    case h_2 => simp at he
    rename_i vs hvs
    simp only [Option.some.injEq, Prod.mk.injEq] at he
    obtain ⟨rfl, rfl⟩ := he
    exact value (by simp only [execOp, hop]) (gives_box (e := e) hr (cX_sound hs hx) hvs)
  | load t x =>
    simp only [cO, hop] at hc
    split at hc
    case h_2 => simp at hc
    rename_i d x' hu hx
    split at hc
    · rename_i hd
      split at hc
      case h_2 => simp at hc
      rename_i i hi
      injection hc with hc; subst hc
      obtain rfl := plain (by simp) (by simp)
      simp only [evO] at he
      split at he
      case h_2 => simp at he
      rename_i v hv
      simp only [Option.some.injEq, Prod.mk.injEq] at he
      obtain ⟨rfl, rfl⟩ := he
      exact value (by simp only [execOp, hop]) (gives_load_agg hr hu hd hi (cX_sound hs hx) hv)
    · rename_i hd
      injection hc with hc; subst hc
      obtain rfl := plain (by simp) (by simp)
      simp only [evO] at he
      split at he
      case h_2 => simp at he
      rename_i v hv
      simp only [Option.some.injEq, Prod.mk.injEq] at he
      obtain ⟨rfl, rfl⟩ := he
      exact value (by simp only [execOp, hop]) (gives_load_one hr hu (by simpa using hd) (cX_sound hs hx) hv)
  | store t x y =>
    simp only [cO, hop] at hc
    split at hc
    case h_2 => simp at hc
    rename_i i x' y' hi hx hy
    injection hc with hc; subst hc
    obtain rfl := plain (by simp) (by simp)
    simp only [evO] at he
    split at he
    case h_2 => simp at he
    rename_i h hh
    simp only [Option.some.injEq, Prod.mk.injEq] at he
    obtain ⟨rfl, rfl⟩ := he
    obtain ⟨w', h1, h2⟩ := run_store (P := P) hr hi (cX_sound hs hx) (cX_sound hs hy) hh
    intro K Q hK
    unfold Oper.wp
    simp only [execOp, hop, Sem.run_bind, h1, Result.andThen_ok, Sem.run_pure]
    exact hK undef w' S ρ h2 (.unk _)
  | makeMap t rsv =>
    cases rsv with
    | some r0 => simp [cO, hop] at hc
    | none =>
      simp only [cO, hop] at hc
      split at hc
      case h_2 => simp at hc
      injection hc with hc; subst hc
      obtain rfl := plain (by simp) (by simp)
      simp only [evO, Option.some.injEq, Prod.mk.injEq] at he
      obtain ⟨rfl, rfl⟩ := he
      exact value (by simp only [execOp, hop, Option.map_none]) (gives_mmk hr t)
  | lookup t x k ok =>
    simp only [cO, hop] at hc
    split at hc
    case h_2 => simp at hc
    rename_i kt et x' k' hu hx hk
    split at hc
    case h_2 => simp at hc
    rename_i i hkt hi
    split at hc
    case h_2 => simp at hc
    rename_i z hz
    injection hc with hc; subst hc
    obtain rfl := plain (by simp) (by simp)
    rw [Option.bind_eq_some_iff] at hz
    obtain ⟨zv, hz1, hz2⟩ := hz
    simp only [evO] at he
    split at he
    case h_2 => simp at he
    rename_i es n h1 h2
    simp only [Option.some.injEq, Prod.mk.injEq] at he
    obtain ⟨rfl, rfl⟩ := he
    exact value (by simp only [execOp, hop]) (gives_mget hr hu hkt hi hz1 hz2 (cX_sound hs hx) (cX_sound hs hk) h1 h2 ok)
  | mapUpdate t x k v =>
    simp only [cO, hop] at hc
    split at hc
    case h_2 => simp at hc
    rename_i kt et x' k' v' hu hx hk hv
    split at hc
    case h_2 => simp at hc
    rename_i hkt
    injection hc with hc; subst hc
    obtain rfl := plain (by simp) (by simp)
    simp only [evO] at he
    split at he
    case h_2 => simp at he
    rename_i n h2
    split at he
    case h_2 => simp at he
    rename_i h hh
    simp only [Option.some.injEq, Prod.mk.injEq] at he
    obtain ⟨rfl, rfl⟩ := he
    obtain ⟨w', S', h1, h3⟩ := mput_sound hr hu hkt (cX_sound hs hx) (cX_sound hs hk) (cX_sound hs hv) h2 hh
    intro K Q hK
    unfold Oper.wp
    simp only [execOp, hop, Sem.run_bind, h1, Result.andThen_ok, Sem.run_pure]
    exact hK undef w' S' ρ h3 (.unk _)
  | nilCheck x =>
    simp only [cO, hop, Option.map_eq_some_iff] at hc
    obtain ⟨x', hx, rfl⟩ := hc
    obtain rfl := plain (by simp) (by simp)
    have hv := cX_sound hs hx
    have hp : ∃ ad, a.eval x = .pointer (some ad) ∧ r = st.x x' ∧ H' = st.h := by
      simp only [evO] at he
      split at he <;> first | (simp at he; done) | (rename_i e; rw [e] at hv; simp only [Option.some.injEq, Prod.mk.injEq] at he; obtain ⟨rfl, rfl⟩ := he; generalize a.eval x = u at hv; cases hv; exact ⟨_, rfl, e.symm, rfl⟩)
    obtain ⟨ad, e1, rfl, rfl⟩ := hp
    refine ok_same hr (v := a.eval x) ?_ hv
    simp only [execOp, hop]
    rw [e1]
  | binOp op t x y yt =>
    simp only [cO, hop] at hc
    split at hc
    case h_2 => simp at hc
    rename_i d x' y' hu hx hy
    have hvx := cX_sound hs hx
    have hvy := cX_sound hs hy
    have hex : execOp a.eval o = (do pure (.value (← (do eqGuard op t x y (a.eval x) (a.eval y); binOp op t (a.eval x) (a.eval y))))) := by simp only [execOp, hop]
    have hbin : q = .bin op x' y' → OpOk P w S ρ st.h r H' o a := by
      intro hq
      subst hq
      obtain rfl := plain (by simp) (by simp)
      simp only [evO] at he
      split at he
      case h_2 => simp at he
      rename_i u v hxu hyv
      split at he
      case h_2 => simp at he
      rename_i z hz
      simp only [Option.some.injEq, Prod.mk.injEq] at he
      obtain ⟨rfl, rfl⟩ := he
      rw [hxu] at hvx
      rw [hyv] at hvy
      exact value hex (gives_bin hr hvx.dr hvy.dr hz t x y)
    have hbq : ∀ (ne : Bool), d = .bool → op = (if ne then .neq else .eql) → q = .beq ne x' y' → OpOk P w S ρ st.h r H' o a := by
      intro ne hd hop' hq
      subst hd; subst hq
      obtain rfl := plain (by simp) (by simp)
      simp only [evO] at he
      split at he
      case h_2 => simp at he
      rename_i p1 p2 h1 h2
      simp only [Option.some.injEq, Prod.mk.injEq] at he
      obtain ⟨rfl, rfl⟩ := he
      have e1 := asBool_inv hvx h1
      have e2 := asBool_inv hvy h2
      rw [e1, e2] at hex
      subst hop'
      cases ne
      · exact value hex (gives_beq hr hu x y).1
      · exact value hex (gives_beq hr hu x y).2
    have heqs : ∀ (ne : Bool) (fs : Array Field) (ks : List Nat), d = .struct fs → op = (if ne then .neq else .eql) → flatK P 50 t = some ks → P.eqGuardType P.depth t = false → q = .eqs ne ks x' y' → OpOk P w S ρ st.h r H' o a := by
      intro ne fs ks hd hop' hk hgt hq
      subst hd; subst hq
      obtain rfl := plain (by simp) (by simp)
      simp only [evO] at he
      split at he
      case h_2 => simp at he
      rename_i us vs h1 h2
      split at he
      case h_2 => simp at he
      rename_i b hb
      simp only [Option.some.injEq, Prod.mk.injEq] at he
      obtain ⟨rfl, rfl⟩ := he
      obtain ⟨X, e1, hX⟩ := plain_sound hvx h1
      obtain ⟨Y, e2, hY⟩ := plain_sound hvy h2
      obtain ⟨l1, l2⟩ := sameD_length hb
      have hrun := flat_struct (P := P) (w := w) (S := S) hu hk hX hY hb 9950
      rw [e1, e2] at hex
      subst hop'
      cases ne
      · refine value hex (gives_dat hr (cv := .bool b) ?_ (.bool _))
        simp only [if_false, Bool.false_eq_true, Sem.run_bind, run_eqGuard_agg w .eql t x y X Y hgt, Result.andThen_ok, run_eql_struct, hrun]
      · refine value hex (gives_dat hr (cv := .bool !b) ?_ (.bool _))
        simp only [if_true, Sem.run_bind, run_eqGuard_agg w .neq t x y X Y hgt, Result.andThen_ok, run_neq_struct, hrun]
    have hisn : ∀ (ne : Bool) (c : Value) (k : Nat), y = .const c → op = (if ne then .neq else .eql) → nilK d c = some k → q = .isn ne k x' → OpOk P w S ρ st.h r H' o a := by
      intro ne c k hy' hop' hk hq
      subst hq
      obtain rfl := plain (by simp) (by simp)
      simp only [evO] at he
      split at he
      case h_2 => simp at he
      rename_i b hb
      simp only [Option.some.injEq, Prod.mk.injEq] at he
      obtain ⟨rfl, rfl⟩ := he
      subst hy'
      subst hop'
      cases ne
      · exact value hex (gives_isn hr hu hk hvx hb x).1
      · exact value hex (gives_isn hr hu hk hvx hb x).2
    have hptr : cNil d x' op y = some q → OpOk P w S ρ st.h r H' o a := by
      intro h
      obtain ⟨ne, c, k, h1, h2, h3, h4⟩ := cNil_inv h
      exact hisn ne c k h1 h2 h3 h4
    cases d with
    | int k => simp only [Option.some.injEq] at hc; exact hbin hc.symm
    | string => simp only [Option.some.injEq] at hc; exact hbin hc.symm
    | bool =>
      cases hop' : op <;> rw [hop'] at hc <;> simp only at hc
      case eql => injection hc with hc; exact hbq false rfl hop' hc.symm
      case neq => injection hc with hc; exact hbq true rfl hop' hc.symm
      all_goals simp at hc
    | struct fs =>
      cases hop' : op <;> rw [hop'] at hc <;> simp only at hc
      case eql =>
        cases hk : flatK P 50 t with
        | none => rw [hk] at hc; simp at hc
        | some ks =>
          rw [hk] at hc
          simp only at hc
          split at hc
          · simp at hc
          · rename_i hgt
            injection hc with hc; exact heqs false fs ks rfl hop' hk (by simpa using hgt) hc.symm
      case neq =>
        cases hk : flatK P 50 t with
        | none => rw [hk] at hc; simp at hc
        | some ks =>
          rw [hk] at hc
          simp only at hc
          split at hc
          · simp at hc
          · rename_i hgt
            injection hc with hc; exact heqs true fs ks rfl hop' hk (by simpa using hgt) hc.symm
      all_goals simp at hc
    | pointer e => exact hptr hc
    | slice e => exact hptr hc
    | map k e => exact hptr hc
    | func a b c => exact hptr hc
    | interface ms => exact hptr hc
    | _ => simp at hc
  | unOp op t x =>
    simp only [cO, hop, Option.map_eq_some_iff] at hc
    obtain ⟨x', hx, rfl⟩ := hc
    obtain rfl := plain (by simp) (by simp)
    simp only [evO] at he
    split at he
    case h_2 => simp at he
    rename_i u hu
    split at he
    case h_2 => simp at he
    rename_i z hz
    simp only [Option.some.injEq, Prod.mk.injEq] at he
    obtain ⟨rfl, rfl⟩ := he
    have hv := cX_sound hs hx
    rw [hu] at hv
    exact value (by simp only [execOp, hop]) (gives_un hr hv.dr hz)
  | convert s t x =>
    simp only [cO, hop] at hc
    split at hc
    case h_2 => simp at hc
    rename_i ds dt x' hus hut hx
    have hv := cX_sound hs hx
    have hex : execOp a.eval o = (do pure (.value (← convert s t (a.eval x)))) := by simp only [execOp, hop]
    split at hc
    · injection hc with hc; subst hc
      obtain rfl := plain (by simp) (by simp)
      simp only [evO] at he
      split at he
      case h_2 => simp at he
      rename_i k' n hn
      simp only [Option.some.injEq, Prod.mk.injEq] at he
      obtain ⟨rfl, rfl⟩ := he
      exact value hex (gives_cvi hr hus hut hv hn)
    · injection hc with hc; subst hc
      obtain rfl := plain (by simp) (by simp)
      simp only [evO] at he
      split at he
      case h_2 => simp at he
      rename_i b hb
      simp only [Option.some.injEq, Prod.mk.injEq] at he
      obtain ⟨rfl, rfl⟩ := he
      exact value hex (gives_cvs hr hus hut hv hb)
    · split at hc
      case h_2 => simp at hc
      rename_i e hue
      injection hc with hc; subst hc
      obtain rfl := plain (by simp) (by simp)
      simp only [evO] at he
      split at he
      case h_2 => simp at he
      rename_i b hb
      simp only [Option.some.injEq, Prod.mk.injEq] at he
      obtain ⟨rfl, rfl⟩ := he
      exact value hex (gives_s2b hr hus hut hue hv hb)
    · split at hc
      case h_2 => simp at hc
      rename_i e hue
      injection hc with hc; subst hc
      obtain rfl := plain (by simp) (by simp)
      simp only [evO] at he
      split at he
      case h_2 => simp at he
      rename_i xs hno hxs
      split at he
      case h_2 => simp at he
      rename_i b hb
      simp only [Option.some.injEq, Prod.mk.injEq] at he
      obtain ⟨rfl, rfl⟩ := he
      exact value hex (gives_b2s hr hus hut hue hv hxs (fun s e => by rw [e] at hno; simp [AV.asStr] at hno) hb)
    · split at hc
      case isFalse => simp at hc
      rename_i hst
      subst hst
      split at hc
      case h_2 => simp at hc
      rename_i hue
      injection hc with hc; subst hc
      obtain rfl := plain (by simp) (by simp)
      simp only [evO] at he
      exact value hex (gives_cvl hr hus hue hv he)
    · simp at hc
  | makeInterface t x =>
    simp only [cO, hop] at hc
    split at hc
    case h_2 => simp at hc
    rename_i d x' hu hx
    split at hc
    · simp at hc
    · rename_i hd
      injection hc with hc; subst hc
      obtain rfl := plain (by simp) (by simp)
      simp only [evO, Option.some.injEq, Prod.mk.injEq] at he
      obtain ⟨rfl, rfl⟩ := he
      exact value (by simp only [execOp, hop]) (gives_mi hr hu (fun ms e => by rw [e] at hd; simp [isIfc] at hd) (cX_sound hs hx))
  | makeFunc f x y =>
    simp only [cO, hop] at hc
    split at hc
    case h_2 => simp at hc
    rename_i x' y' hx hy
    injection hc with hc; subst hc
    obtain rfl := plain (by simp) (by simp)
    simp only [evO, Option.some.injEq, Prod.mk.injEq] at he
    obtain ⟨rfl, rfl⟩ := he
    obtain ⟨a1, a2⟩ := cXs_sound hs hx
    obtain ⟨b1, b2⟩ := cXs_sound hs hy
    exact value (s := Instr.makeFunc f (x.map a.eval) (y.map a.eval)) (by simp only [execOp, hop]) (gives_same hr (cv := .func f (x.map a.eval) (y.map a.eval)) rfl (.clo _ _ _ _ _ a1 b1 a2 b2))
  | fieldAddr t x f =>
    simp only [cO, hop] at hc
    split at hc
    case h_2 => simp at hc
    rename_i fs x' hu hx
    split at hc
    case h_2 => simp at hc
    rename_i fd hf
    split at hc
    case h_2 => simp at hc
    rename_i i hi
    split at hc
    · simp at hc
    rename_i hz
    injection hc with hc; subst hc
    obtain rfl := plain (by simp) (by simp)
    simp only [evO] at he
    split at he
    case h_2 => simp at he
    rename_i v hv
    simp only [Option.some.injEq, Prod.mk.injEq] at he
    obtain ⟨rfl, rfl⟩ := he
    exact value (by simp only [execOp, hop]) (gives_fa hr hu hf hi hz (cX_sound hs hx) hv)
  | indexAddr t x i =>
    simp only [cO, hop] at hc
    split at hc
    · rename_i n e x' i' hu hx hi
      split at hc
      case h_2 => simp at hc
      rename_i ti hti
      injection hc with hc; subst hc
      obtain rfl := plain (by simp) (by simp)
      simp only [evO] at he
      split at he
      case h_2 => simp at he
      rename_i j p kk k hxv hiv
      split at he
      case isFalse => simp at he
      rename_i hk
      simp only [Option.some.injEq, Prod.mk.injEq] at he
      obtain ⟨rfl, rfl⟩ := he
      exact value (by simp only [execOp, hop]) (gives_ia hr hu hti (cX_sound hs hx) (cX_sound hs hi) hxv hiv hk.1 hk.2)
    · rename_i e x' i' hu hx hi
      split at hc
      case h_2 => simp at hc
      rename_i ti hti
      split at hc
      · simp at hc
      injection hc with hc; subst hc
      obtain rfl := plain (by simp) (by simp)
      simp only [evO] at he
      split at he
      case h_2 => simp at he
      rename_i kk k hiv
      split at he
      case h_2 => simp at he
      rename_i v hv
      simp only [Option.some.injEq, Prod.mk.injEq] at he
      obtain ⟨rfl, rfl⟩ := he
      exact value (by simp only [execOp, hop]) (gives_is hr hu hti (cX_sound hs hx) (cX_sound hs hi) hiv hv)
    · simp at hc
  | field t x f =>
    simp only [cO, hop] at hc
    split at hc
    case h_2 => simp at hc
    rename_i fs x' hu hx
    split at hc
    case h_2 => simp at hc
    rename_i fd hf
    split at hc
    case h_2 => simp at hc
    rename_i d hd
    split at hc
    · rename_i hg
      split at hc
      case h_2 => simp at hc
      rename_i i hi
      injection hc with hc; subst hc
      obtain rfl := plain (by simp) (by simp)
      simp only [evO] at he
      split at he
      case h_2 => simp at he
      rename_i cs hcs
      split at he
      case isFalse => simp at he
      rename_i hn
      simp only [if_true, Option.some.injEq, Prod.mk.injEq] at he
      obtain ⟨rfl, rfl⟩ := he
      have hv := cX_sound hs hx
      rw [hcs] at hv
      exact value (by simp only [execOp, hop]) ((gives_fld hr hu hf hd hv).1 i hg hi hn)
    · rename_i hg
      injection hc with hc; subst hc
      obtain rfl := plain (by simp) (by simp)
      simp only [evO] at he
      split at he
      case h_2 => simp at he
      rename_i cs hcs
      split at he
      case isFalse => simp at he
      rename_i hn
      simp only [if_true, Bool.false_eq_true, if_false, Option.some.injEq, Prod.mk.injEq] at he
      obtain ⟨rfl, rfl⟩ := he
      have hv := cX_sound hs hx
      rw [hcs] at hv
      exact value (by simp only [execOp, hop]) ((gives_fld hr hu hf hd hv).2 (by simpa using hg) hn)
  | index t x i =>
    simp only [cO, hop] at hc
    split at hc
    · rename_i x' i' hu hx hi
      injection hc with hc; subst hc
      obtain rfl := plain (by simp) (by simp)
      simp only [evO] at he
      split at he
      case h_2 => simp at he
      rename_i s kk k hxv hiv
      split at he
      case isFalse => simp at he
      rename_i hk
      simp only [Option.some.injEq, Prod.mk.injEq] at he
      obtain ⟨rfl, rfl⟩ := he
      exact value (by simp only [execOp, hop]) (gives_sti hr hu (cX_sound hs hx) (cX_sound hs hi) hxv hiv hk.1 hk.2)
    · rename_i n e x' i' hu hx hi
      split at hc
      case h_2 => simp at hc
      rename_i d ti hd hti
      split at hc
      · rename_i hg
        injection hc with hc; subst hc
        obtain rfl := plain (by simp) (by simp)
        simp only [evO] at he
        split at he
        case h_2 => simp at he
        rename_i cs kk k hxv hiv
        split at he
        case isFalse => simp at he
        rename_i hk
        simp only [if_true, Option.some.injEq, Prod.mk.injEq] at he
        obtain ⟨rfl, rfl⟩ := he
        have hv := cX_sound hs hx
        rw [hxv] at hv
        exact value (by simp only [execOp, hop]) ((gives_idx hr hu hd hti hv (cX_sound hs hi) hiv hk.1 hk.2.1 hk.2.2).1 hg)
      · rename_i hg
        split at hc
        case isFalse => simp at hc
        rename_i h1
        injection hc with hc; subst hc
        obtain rfl := plain (by simp) (by simp)
        simp only [evO] at he
        split at he
        case h_2 => simp at he
        rename_i cs kk k hxv hiv
        split at he
        case isFalse => simp at he
        rename_i hk
        simp only [if_true, Bool.false_eq_true, if_false, Option.some.injEq, Prod.mk.injEq] at he
        obtain ⟨rfl, rfl⟩ := he
        have hv := cX_sound hs hx
        rw [hxv] at hv
        exact value (by simp only [execOp, hop]) ((gives_idx hr hu hd hti hv (cX_sound hs hi) hiv hk.1 hk.2.1 (by rw [h1]; exact hk.2.2)).2 (by simpa using hg) h1)
    · simp at hc
  | extract x i =>
    simp only [cO, hop, Option.map_eq_some_iff] at hc
    obtain ⟨x', hx, rfl⟩ := hc
    obtain rfl := plain (by simp) (by simp)
    simp only [evO] at he
    split at he
    case h_2 => simp at he
    rename_i vs hvs
    split at he
    case isFalse => simp at he
    rename_i hi
    simp only [Option.some.injEq, Prod.mk.injEq] at he
    obtain ⟨rfl, rfl⟩ := he
    have hv := cX_sound hs hx
    rw [hvs] at hv
    exact value (by simp only [execOp, hop]) (gives_ext hr hv hi)
  | slice t x lo hi mx =>
    simp only [cO, hop] at hc
    split at hc
    · rename_i x' lo' hi' hu hx hlo hhi hmx
      injection hc with hc; subst hc
      obtain rfl := plain (by simp) (by simp)
      simp only [evO] at he
      split at he
      case h_2 => simp at he
      rename_i s l h hxs hl hh
      split at he
      case isFalse => simp at he
      rename_i hb
      simp only [Option.some.injEq, Prod.mk.injEq] at he
      obtain ⟨rfl, rfl⟩ := he
      have hm : mx = none := by cases mx with
        | none => rfl
        | some m => simp [cO.cXo] at hmx
      subst hm
      exact value (by simp only [execOp, hop]; rfl) (gives_ssl hr hu (cX_sound hs hx) hxs (bound_sound hs hlo hl) (bound_sound hs hhi hh) hb.1 hb.2 (fun n e => by rw [hu]; simp))
    · rename_i e x' lo' hi' mx' hu hx hlo hhi hmx
      split at hc
      case h_2 => simp at hc
      rename_i ti hti
      split at hc
      · simp at hc
      split at hc
      · simp at hc
      rename_i hmh
      injection hc with hc; subst hc
      obtain rfl := plain (by simp) (by simp)
      simp only [evO] at he
      split at he
      case h_2 => simp at he
      rename_i l h m hl hh hm
      split at he
      case h_2 => simp at he
      rename_i v hv
      simp only [Option.some.injEq, Prod.mk.injEq] at he
      obtain ⟨rfl, rfl⟩ := he
      refine value (by simp only [execOp, hop]) (gives_sl hr hu hti (cX_sound hs hx) (bound_sound hs hlo hl) (bound_sound hs hhi hh) (bound_sound hs hmx hm) (fun ⟨h1, h2⟩ => ?_) hv)
      subst h2
      cases m with
      | none => simp at h1
      | some m =>
        refine hmh ⟨?_, ?_⟩
        · cases mx' with
          | none => simp [evO.bound] at hm
          | some y => rfl
        · cases hi' with
          | none => rfl
          | some y =>
            simp only [evO.bound] at hh
            split at hh <;> simp at hh
    · simp at hc
  | build t ps =>
    simp only [cO, hop] at hc
    have hplaces : ∀ {f : Nat → Option (Nat × Nat)} {qs : List (Nat × Nat × X)} {zs : List D} {out : List AV}, allO (fun (p : Nat × Operand) => match f p.1, cX p.2 with | some e, some x => some (e.1, e.2, x) | _, _ => none) ps.toList = some qs →
        zerosOf P t = some zs → fillA (zs.map .d) (qs.map fun p => (p.1, p.2.1, st.x p.2.2)) = some out →
        (∀ (zv : Value) (c : Array Value), (zeroValue t).run P w = .ok zv w → Instr.fill f zv.cells (ps.map fun p => (p.1, a.eval p.2)).toList = some c → (Instr.build t (ps.map fun p => (p.1, a.eval p.2))).run P w = .ok (.agg c) w) →
        Gives P w S ρ st.h (.agg out) st.h (Instr.build t (ps.map fun p => (p.1, a.eval p.2))) := by
      intro f qs zs out hq hz hf hrun
      obtain ⟨l1, l2⟩ := parts_sound hs hq
      refine gives_build hr hz (by simpa using l1) (fun k hk => ?_) hf hrun
      have hk' : k < ps.size := by simpa using hk
      obtain ⟨p1, p2⟩ := l2 k hk'
      have e1 : (ps.map fun p => (p.1, a.eval p.2)).toList.getD k (0, undef) = ((ps.toList.getD k (0, .tmp 0)).1, a.eval (ps.toList.getD k (0, .tmp 0)).2) := by
        rw [Array.toList_map, getD_map' _ _ _ (0, Operand.tmp 0) _ (by simpa using hk')]
      have e2 : (qs.map fun p => (p.1, p.2.1, st.x p.2.2)).getD k (0, 0, .unk) = ((qs.getD k (0, 0, .s 0)).1, (qs.getD k (0, 0, .s 0)).2.1, st.x (qs.getD k (0, 0, .s 0)).2.2) := by
        rw [getD_map' _ _ _ (0, 0, X.s 0) _ (by omega)]
      rw [e1, e2]; exact ⟨p1, p2⟩
    split at hc
    · rename_i fs zs hu hz
      split at hc
      case isFalse => simp at hc
      rename_i hall
      rw [Option.map_eq_some_iff] at hc
      obtain ⟨qs, hq, rfl⟩ := hc
      obtain rfl := plain (by simp) (by simp)
      simp only [evO] at he
      split at he
      case h_2 => simp at he
      rename_i cs hcs
      simp only [Option.some.injEq, Prod.mk.injEq] at he
      obtain ⟨rfl, rfl⟩ := he
      refine value (by simp only [execOp, hop]) (hplaces (f := fun i => (fs[i]?).map fun f => (f.offset, P.cellsOf f.type)) ?_ hz hcs (fun zv c hzv hfill => ?_))
      · rw [← hq]; congr 1; funext p
        cases fs[p.1]? <;> cases cX p.2 <;> rfl
      · have hm : (fs.mapM fun f => (do pure (f.offset, ← sizeOf f.type) : Sem (Nat × Nat))).run P w = .ok (fs.map fun f => (f.offset, P.cellsOf f.type)) w := by
          refine run_mapM_arr _ _ _ fun f hf => ?_
          have := List.all_eq_true.1 hall f (by simpa using hf)
          cases hi : P.info? f.type with
          | none => rw [hi] at this; simp at this
          | some i => simp [run_sizeOf hi, Program.cellsOf, hi]
        simp only [Instr.build, Sem.run_bind, hzv, Result.andThen_ok, run_underlying hu, hm]
        have : (fun i => (fs.map fun (f : Field) => (f.offset, P.cellsOf f.type))[i]?) = fun (i : Nat) => (fs[i]?).map fun (f : Field) => (f.offset, P.cellsOf f.type) := by
          funext i; rw [Array.getElem?_map]
        rw [this, hfill]; rfl
    · rename_i n e zs hu hz
      split at hc
      case h_2 => simp at hc
      rename_i ti hti
      rw [Option.map_eq_some_iff] at hc
      obtain ⟨qs, hq, rfl⟩ := hc
      obtain rfl := plain (by simp) (by simp)
      simp only [evO] at he
      split at he
      case h_2 => simp at he
      rename_i cs hcs
      simp only [Option.some.injEq, Prod.mk.injEq] at he
      obtain ⟨rfl, rfl⟩ := he
      refine value (by simp only [execOp, hop]) (hplaces (f := fun i => some (i * ti.size, ti.size)) ?_ hz hcs (fun zv c hzv hfill => ?_))
      · rw [← hq]; congr 1; funext p
        cases cX p.2 <;> rfl
      · simp only [Instr.build, Sem.run_bind, hzv, Result.andThen_ok, run_underlying hu, run_sizeOf hti, hfill]; rfl
    · simp at hc
  | buildSlice t n ps =>
    simp only [cO, hop] at hc
    split at hc
    case h_2 => simp at hc
    rename_i e hu
    split at hc
    case h_2 => simp at hc
    rename_i ti zs hti hz
    split at hc
    case isFalse => simp at hc
    rename_i hlim
    rw [Option.map_eq_some_iff] at hc
    obtain ⟨qs, hq, rfl⟩ := hc
    obtain rfl := plain (by simp) (by simp)
    simp only [evO] at he
    split at he
    case h_2 => simp at he
    rename_i cs hcs
    split at he
    case h_2 => simp at he
    rename_i ds hds
    split at he
    case isFalse => simp at he
    rename_i hdl
    simp only [Option.some.injEq, Prod.mk.injEq] at he
    obtain ⟨rfl, rfl⟩ := he
    obtain ⟨i, zv, hi', hzv, hzl, hza⟩ := zerosOf_spec hz
    rw [hti] at hi'; injection hi' with hi'; subst hi'
    have hq' : allO (fun (p : Nat × Operand) => match (fun i => some (i * ti.size, ti.size)) p.1, cX p.2 with | some e, some x => some (e.1, e.2, x) | _, _ => none) ps.toList = some qs := by
      rw [← hq]; congr 1; funext p; cases cX p.2 <;> rfl
    obtain ⟨l1, l2⟩ := parts_sound (f := fun i => some (i * ti.size, ti.size)) hs hq'
    obtain ⟨S1, e1⟩ := evo_freezeAll (ρ := ρ) (AV.ownsL (qs.map fun p => st.x p.2.2)) hr
    have hview : ∀ k, k < ps.size → VR w S1 ρ ((st.x (qs.getD k (0, 0, .s 0)).2.2).view st.h) (a.eval (ps.toList.getD k (0, .tmp 0)).2) := by
      intro k hk
      refine view_sound e1.rel (e1.vr hr (l2 k hk).2) (fun j hj => ?_)
      have hjm : j ∈ AV.ownsL (qs.map fun p => st.x p.2.2) := by
        refine mem_ownsL (j := k) (by simp; omega) ?_
        rw [getD_map' _ _ _ (0, 0, X.s 0) _ (by omega)]; exact hj
      exact ⟨fun z xs hb => freezeAll_mem _ _ _ _ _ hjm hb, fun es hb => freezeAll_mem_m _ _ _ _ hjm hb⟩
    let zc : Array Value := (Array.range (n * ti.size)).map fun j => (if n * ti.size = 0 then (#[] : Array Value) else zv.cells)[j % (if n * ti.size = 0 then (#[] : Array Value) else zv.cells).size]!
    obtain ⟨zc1, zc2, zc3⟩ := cells_of_allO (w := w) (S := S1) hza
    have hzsz : zv.cells.size = ti.size := by omega
    have hagg : AggR w S1 ρ (((List.replicate n zs).flatten).map .d) zc := by
      have hget : ∀ j, j < n * ti.size → zc.getD j undef = zv.cells.getD (j % ti.size) undef := by
        intro j hj
        have hmod : j % ti.size < zv.cells.size := by rw [hzsz]; exact Nat.mod_lt _ hlim.2
        have hne : ¬ n * ti.size = 0 := by omega
        simp only [zc, hne, if_false]
        rw [← toList_getD, Array.toList_map, getD_map' _ _ _ 0 _ (by simpa using hj)]
        simp only [Array.toList_range, range_getD hj, hzsz]
        simp [Array.getD, hmod]
      refine ⟨by simp [zc, hzl], fun j hj => ?_, fun j hj => ?_⟩
      · have hj' : j < n * ti.size := by simpa [hzl] using hj
        rw [hget j hj']; exact zc2 _ (by rw [hzl]; exact Nat.mod_lt _ hlim.2)
      · have hj' : j < n * zs.length := by simpa using hj
        rw [getD_map' _ _ _ D.nilp _ (by simpa using hj'), rep_getD _ _ _ _ hj', hget j (by rw [← hzl]; exact hj'), hzl]
        exact .d _ _ (zc3 _ (by rw [hzl]; exact Nat.mod_lt _ hlim.2))
    obtain ⟨c, f1, f2⟩ := fill_sound (fun i => some (i * ti.size, ti.size)) (ps.map fun p => (p.1, a.eval p.2)).toList (qs.map fun p => (p.1, p.2.1, (st.x p.2.2).view st.h)) zc _ cs (by simp [l1]) (fun k hk => by
      have hk' : k < ps.size := by simpa using hk
      obtain ⟨p1, p2⟩ := l2 k hk'
      have e1 : (ps.map fun p => (p.1, a.eval p.2)).toList.getD k (0, undef) = ((ps.toList.getD k (0, .tmp 0)).1, a.eval (ps.toList.getD k (0, .tmp 0)).2) := by
        rw [Array.toList_map, getD_map' _ _ _ (0, Operand.tmp 0) _ (by simpa using hk')]
      have e2 : (qs.map fun p => (p.1, p.2.1, (st.x p.2.2).view st.h)).getD k (0, 0, .unk) = ((qs.getD k (0, 0, .s 0)).1, (qs.getD k (0, 0, .s 0)).2.1, (st.x (qs.getD k (0, 0, .s 0)).2.2).view st.h) := by
        rw [getD_map' _ _ _ (0, 0, X.s 0) _ (by omega)]
      rw [e1, e2]; exact ⟨p1, hview k hk'⟩) hagg hcs
    obtain ⟨d1, d2⟩ := plainD_get hds
    have hcsz : c.size = n * ti.size := by rw [← f2.len, d1, hdl]
    have hrun : (Instr.buildSlice t n (ps.map fun p => (p.1, a.eval p.2))).run P w = .ok (.slice (some ⟨w.heap.size, 0, none⟩) n n) (w.alloc (.cells c e (0, 0))) := by
      have hl2 : ¬ n * ti.size > 2 ^ 24 := by omega
      by_cases h0 : n * ti.size = 0
      · simp only [zc, h0, if_true] at f1
        simp only [Instr.buildSlice, Sem.run_bind, run_underlying hu, Result.andThen_ok, run_sizeOf hti, gt_iff_lt, Nat.not_lt_zero, if_false, h0, if_true, Sem.run_pure, f1, newRow, newObj, Sem.run, World.alloc_eq]
      · simp only [zc, h0, if_false] at f1
        simp only [Instr.buildSlice, Sem.run_bind, run_underlying hu, Result.andThen_ok, run_sizeOf hti, hl2, if_false, h0, Sem.run_pure, run_zeroValue hti hzv, f1, newRow, newObj, Sem.run, World.alloc_eq]
    have hg := gives_row (P := P) e1.rel e hdl hcsz (fun j hj => f2.ones j (by rw [d1, hdl]; exact hj)) (fun j hj => by
      have := f2.vr j (by rw [d1, hdl]; exact hj)
      rw [d2 j (by omega)] at this
      exact this.dr) true hrun
    obtain ⟨cv, w', S', ρ', g1, g2, g3⟩ := hg
    rw [freezeAll_length] at g3
    exact value (by simp only [execOp, hop]) ⟨cv, w', S', ρ', g1, e1.trans g2, g3⟩
  | call c =>
    simp only [cO, hop] at hc
    split at hc
    · rename_i f xs hcal hxs
      split at hc
      case h_2 => simp at hc
      rename_i fn hfn
      split at hc
      case isFalse => simp at hc
      injection hc with hc; subst hc
      rcases strip_inv hst with h | ⟨f', xs', rf, h, h2⟩ | ⟨x, xs', rf, h, h2⟩
      · subst h
        simp only [evO] at he
        obtain ⟨v1, v2⟩ := cXs_sound hs hxs
        exact ok_call hcall he hr v1 v2 (by
          simp only [execOp, hop, Sem.run_bind, resolve, hcal, Act.eval, Deferred.ofValue, Sem.run_pure, Result.andThen_ok, invoke]
          rw [run_callFunc (doCall_body hcall he)]
          simp)
      · injection h2 with h2 h3 h4
        subst h2; subst h3; subst h
        simp only [evO] at he
        obtain ⟨v1, v2⟩ := cXs_sound hs hxs
        exact ok_call hcall he hr v1 v2 (by
          simp only [execOp, hop, Sem.run_bind, resolve, hcal, Act.eval, Deferred.ofValue, Sem.run_pure, Result.andThen_ok, invoke]
          rw [run_callFunc (doCall_body hcall he)]
          simp)
      · simp at h2
    · rename_i x xs hnf hcal hxs
      rw [Option.map_eq_some_iff] at hc
      obtain ⟨x', hx, rfl⟩ := hc
      have hq : ∃ rf, o' = .callv x' xs rf := by
        rcases strip_inv hst with h | ⟨f', xs', rf, h, h2⟩ | ⟨y, xs', rf, h, h2⟩
        · exact ⟨0, h⟩
        · simp at h2
        · injection h2 with h2 h3 h4
          subst h2; subst h3; exact ⟨rf, h⟩
      obtain ⟨rf, rfl⟩ := hq
      obtain ⟨v1, v2⟩ := cXs_sound hs hxs
      have hv := cX_sound hs hx
      simp only [evO] at he
      split at he
      · rename_i f fa fb hxv
        rw [hxv] at hv
        have hinv : ∃ va vb, a.eval x = .func (.func f) va vb ∧ fa.length = va.size ∧ fb.length = vb.size ∧ (∀ i, i < fa.length → VR w S ρ (fa.getD i .unk) (va.getD i undef)) ∧ (∀ i, i < fb.length → VR w S ρ (fb.getD i .unk) (vb.getD i undef)) := by
          generalize a.eval x = u at hv
          cases hv; exact ⟨_, _, rfl, by assumption, by assumption, by assumption, by assumption⟩
        obtain ⟨va, vb, e1, n1, n2, m1, m2⟩ := hinv
        have hlen : (fa ++ st.xs xs ++ fb).length = (va ++ c.args.map a.eval ++ vb).size := by
          simp only [List.length_append, Array.size_append]; omega
        refine ok_call hcall he hr hlen (fun i hi => ?_) (by
          simp only [execOp, hop, Sem.run_bind, resolve, hcal, e1, Deferred.ofValue, Sem.run_pure, Result.andThen_ok, invoke]
          rw [run_callFunc (doCall_body hcall he)])
        have hga : (va ++ c.args.map a.eval ++ vb).getD i undef = if i < va.size then va.getD i undef else if i < va.size + (c.args.map a.eval).size then (c.args.map a.eval).getD (i - va.size) undef else vb.getD (i - va.size - (c.args.map a.eval).size) undef := by
          rw [← toList_getD, Array.toList_append, Array.toList_append, getD_app3 _ _ _ 0, toList_getD, toList_getD, toList_getD]
          simp only [Array.length_toList]
        rw [hga, getD_app3 _ _ _ 0, n1, v1]
        simp only [List.length_append] at hi
        by_cases q1 : i < va.size
        · rw [if_pos q1, if_pos q1]; exact m1 i (by omega)
        · rw [if_neg q1, if_neg q1]
          by_cases q2 : i < va.size + (c.args.map a.eval).size
          · rw [if_pos q2, if_pos q2]; exact v2 (i - va.size) (by omega)
          · rw [if_neg q2, if_neg q2]; exact m2 (i - va.size - (c.args.map a.eval).size) (by omega)
      · rename_i f hxv
        rw [hxv] at hv
        have e1 : a.eval x = .func (.func f) #[] #[] := by
          generalize a.eval x = u at hv
          cases hv.dr; rfl
        exact ok_call hcall he hr v1 v2 (by
          simp only [execOp, hop, Sem.run_bind, resolve, hcal, e1, Deferred.ofValue, Sem.run_pure, Result.andThen_ok, invoke]
          rw [run_callFunc (doCall_body hcall he)]
          simp)
      · simp at he
    · rename_i b xs hcal hxs
      obtain ⟨v1, v2⟩ := cXs_sound hs hxs
      have hex : ∀ (s : Sem Value), (builtin b c.argTypes o.type (c.args.map fun | .const _ => true | _ => false) (c.args.map a.eval)) = (do pure (.value (← s))) → execOp a.eval o = (do pure (.value (← s))) := by
        intro s h
        rw [← h]
        simp only [execOp, hop, resolve, hcal]
        rfl
      have two : ∀ (x y : X), xs = [x, y] → ∃ vx vy, c.args.map a.eval = #[vx, vy] ∧ VR w S ρ (st.x x) vx ∧ VR w S ρ (st.x y) vy := by
        intro x y h
        subst h
        have hsz : (c.args.map a.eval).size = 2 := by simpa [St.xs] using v1.symm
        have h0 := v2 0 (by simp [St.xs])
        have h1 := v2 1 (by simp [St.xs])
        refine ⟨(c.args.map a.eval).getD 0 undef, (c.args.map a.eval).getD 1 undef, ?_, by simpa [St.xs] using h0, by simpa [St.xs] using h1⟩
        apply Array.ext
        · simp [hsz]
        · intro i hi1 hi2
          have : i = 0 ∨ i = 1 := by omega
          rcases this with rfl | rfl <;> simp [Array.getD, hsz]
      have single : ∀ (x : X), xs = [x] → ∃ vx, c.args.map a.eval = #[vx] ∧ VR w S ρ (st.x x) vx := by
        intro x h
        subst h
        have hsz : (c.args.map a.eval).size = 1 := by simpa [St.xs] using v1.symm
        have h0 := v2 0 (by simp [St.xs])
        refine ⟨(c.args.map a.eval).getD 0 undef, ?_, by simpa [St.xs] using h0⟩
        apply Array.ext
        · simp [hsz]
        · intro i hi1 hi2
          have : i = 0 := by omega
          subst this; simp [Array.getD, hsz]
      split at hc
      · rename_i x
        obtain ⟨vx, ha, hvx⟩ := single x rfl
        cases ht : c.argTypes[0]? with
        | none => rw [ht] at hc; simp at hc
        | some t0 =>
          rw [ht] at hc
          simp only [Option.bind_some] at hc
          split at hc
          · rename_i hu; injection hc with hc; subst hc
            obtain rfl := plain (by simp) (by simp)
            simp only [evO] at he
            split at he
            case h_2 => simp at he
            rename_i s hs'
            simp only [Option.some.injEq, Prod.mk.injEq] at he
            obtain ⟨rfl, rfl⟩ := he
            refine value (hex (Builtin.len_ c.argTypes o.type #[vx]) (by rw [ha]; rfl)) (gives_dat hr (cv := .int .i64 s.length) ?_ (.int ..))
            rw [asStr_inv hvx hs']
            have hsz : (ByteArray.mk s.toArray).size = s.length := by simp [ByteArray.size]
            simp only [Builtin.len_, ht, List.getElem?_toArray, List.getElem?_cons_zero, Sem.run_bind, run_underlying hu, Result.andThen_ok, hsz, Sem.run_pure, goInt]
          · rename_i e hu; injection hc with hc; subst hc
            obtain rfl := plain (by simp) (by simp)
            simp only [evO] at he
            split at he
            case h_2 => simp at he
            rename_i n hn
            simp only [Option.some.injEq, Prod.mk.injEq] at he
            obtain ⟨rfl, rfl⟩ := he
            refine value (hex (Builtin.len_ c.argTypes o.type #[vx]) (by rw [ha]; rfl)) (gives_dat hr (cv := .int .i64 n) ?_ (.int ..))
            obtain ⟨b, cap, rfl⟩ := lenA_inv hvx hn
            simp [Builtin.len_, ht, run_underlying hu, goInt]
          · rename_i n e hu
            injection hc with hc; subst hc
            obtain rfl := plain (by simp) (by simp)
            simp only [evO, Option.some.injEq, Prod.mk.injEq] at he
            obtain ⟨rfl, rfl⟩ := he
            refine value (hex (Builtin.len_ c.argTypes o.type #[vx]) (by rw [ha]; rfl)) (gives_dat hr (cv := .int .i64 n) ?_ (.int ..))
            simp [Builtin.len_, ht, run_underlying hu, goInt]
          · rename_i kt et hu
            injection hc with hc; subst hc
            obtain rfl := plain (by simp) (by simp)
            simp only [evO] at he
            split at he
            case h_2 => simp at he
            rename_i es hes
            simp only [Option.some.injEq, Prod.mk.injEq] at he
            obtain ⟨rfl, rfl⟩ := he
            refine value (hex (Builtin.len_ c.argTypes o.type #[vx]) (by rw [ha]; rfl)) (gives_dat hr (cv := .int .i64 es.length) ?_ (.int ..))
            rcases mapA_inv hr hvx hes with ⟨rfl, rfl⟩ | ⟨g, ents, clk, cs, rfl, hb, hen, hm⟩
            · simp [Builtin.len_, ht, run_underlying hu, goInt]
            · simp [Builtin.len_, ht, run_underlying hu, goInt, MapKept.run_getObj_map hb, Result.andThen, hm.len, hen.len]
          · simp at hc
      · rename_i x y
        obtain ⟨vx, vy, ha, hvx, hvy⟩ := two x y rfl
        cases ht0 : c.argTypes[0]? with
        | none => rw [ht0] at hc; simp at hc
        | some t0 =>
          cases ht1 : c.argTypes[1]? with
          | none => rw [ht1] at hc; simp at hc
          | some t1 =>
            rw [ht0, ht1] at hc
            simp only [Option.bind_some] at hc
            split at hc
            case h_2 => simp at hc
            rename_i e d hu hu1
            split at hc
            case h_2 => simp at hc
            rename_i ti zs hti hz
            split at hc
            case isFalse => simp at hc
            rename_i hcond
            injection hc with hc; subst hc
            obtain rfl := plain (by simp) (by simp)
            simp only [evO] at he
            split at he
            case h_2 => simp at he
            rename_i ys hys
            exact value (hex (Builtin.append_ c.argTypes o.type #[vx, vy]) (by rw [ha]; rfl)) (gives_app hr ht0 ht1 hu hu1 hcond.2.2 hti hz hcond.2.1 hvx hvy hys he)
      · rename_i x y
        obtain ⟨vx, vy, ha, hvx, hvy⟩ := two x y rfl
        cases ht0 : c.argTypes[0]? with
        | none => rw [ht0] at hc; simp at hc
        | some t0 =>
          rw [ht0] at hc
          simp only [Option.bind_some] at hc
          split at hc
          case h_2 => simp at hc
          rename_i kt et hu
          split at hc
          case h_2 => simp at hc
          rename_i hkt
          injection hc with hc; subst hc
          obtain rfl := plain (by simp) (by simp)
          simp only [evO] at he
          split at he
          case h_2 => simp at he
          rename_i n h2
          split at he
          case h_2 => simp at he
          rename_i h hh
          simp only [Option.some.injEq, Prod.mk.injEq] at he
          obtain ⟨rfl, rfl⟩ := he
          exact value (hex (Builtin.delete_ c.argTypes o.type #[vx, vy]) (by rw [ha]; rfl)) (gives_mdel hr ht0 hu hkt hvx hvy h2 hh)
      · rename_i x
        obtain ⟨vx, ha, hvx⟩ := single x rfl
        cases ht : c.argTypes[0]? with
        | none => rw [ht] at hc; simp at hc
        | some t0 =>
          rw [ht] at hc
          simp only [Option.bind_some] at hc
          split at hc
          case h_2 => simp at hc
          rename_i e hu
          rw [Option.map_eq_some_iff] at hc
          obtain ⟨zs, hz, rfl⟩ := hc
          obtain rfl := plain (by simp) (by simp)
          simp only [evO] at he
          exact value (hex (Builtin.clear_ c.argTypes o.type #[vx]) (by rw [ha]; rfl)) (gives_clr hr ht hu hz hvx he)
      · rename_i x y
        obtain ⟨vx, vy, ha, hvx, hvy⟩ := two x y rfl
        cases ht : c.argTypes[0]? with
        | none => rw [ht] at hc; simp at hc
        | some t0 =>
          rw [ht] at hc
          simp only [Option.bind_some] at hc
          split at hc
          case h_2 => simp at hc
          rename_i e hu
          rw [Option.map_eq_some_iff] at hc
          obtain ⟨ti, hi, rfl⟩ := hc
          obtain rfl := plain (by simp) (by simp)
          simp only [evO] at he
          exact value (hex (Builtin.copy_ c.argTypes o.type #[vx, vy]) (by rw [ha]; rfl)) (gives_cpy hr ht hu hi hvx hvy he)
      · rename_i x y
        obtain ⟨vx, vy, ha, hvx, hvy⟩ := two x y rfl
        injection hc with hc; subst hc
        obtain rfl := plain (by simp) (by simp)
        simp only [evO] at he
        split at he
        case h_2 => simp at he
        rename_i u v hxu hyv
        split at he
        case h_2 => simp at he
        rename_i z hz
        simp only [Option.some.injEq, Prod.mk.injEq] at he
        obtain ⟨rfl, rfl⟩ := he
        rw [hxu] at hvx; rw [hyv] at hvy
        obtain ⟨vz, z1, z2⟩ := max_run (P := P) (w := w) c.argTypes o.type hvx.dr hvy.dr hz
        exact value (hex (Builtin.max_ c.argTypes o.type #[vx, vy]) (by rw [ha]; rfl)) (gives_dat hr z1 z2)
      · rename_i x y
        obtain ⟨vx, vy, ha, hvx, hvy⟩ := two x y rfl
        injection hc with hc; subst hc
        obtain rfl := plain (by simp) (by simp)
        simp only [evO] at he
        split at he
        case h_2 => simp at he
        rename_i u v hxu hyv
        split at he
        case h_2 => simp at he
        rename_i z hz
        simp only [Option.some.injEq, Prod.mk.injEq] at he
        obtain ⟨rfl, rfl⟩ := he
        rw [hxu] at hvx; rw [hyv] at hvy
        obtain ⟨vz, z1, z2⟩ := min_run (P := P) (w := w) c.argTypes o.type hvx.dr hvy.dr hz
        exact value (hex (Builtin.min_ c.argTypes o.type #[vx, vy]) (by rw [ha]; rfl)) (gives_dat hr z1 z2)
      · simp at hc
    · simp at hc
  | _ => simp only [cO, hop] at hc; simp at hc
end
end Go.Ev
