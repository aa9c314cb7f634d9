/- From the evaluator's answer to a given row: the law returns true, its arguments read as they did. Own work. -/
import Derived.Test.YtbcpffhialoliaaEvRead
import Derived.Handed
import Derived.Stop.Joined
namespace Go.Ev
open Go Go.ChangeShapes Go.WideShapes Go.RowKit
set_option linter.unusedVariables false
set_option linter.unusedSimpArgs false

/-- One argument. -/
def argA (P : Program) (t : TypeId) (ds : List D) : AV := match P.underlying t with
  | some (.struct _) | some (.array _ _) => .agg (ds.map .d)
  | _ => .d (ds.getD 0 .nilp)

/-- The arguments of a call are as their types say. -/
def OkAll (P : Program) : List TypeId → List (List D) → Prop
  | [], l => l = []
  | t :: ts, ds :: l => (∃ sh, shOf P 50 t = some sh ∧ sh.ok ds) ∧ OkAll P ts l
  | _ :: _, [] => False
def argsA (P : Program) : List TypeId → List (List D) → List AV
  | t :: ts, ds :: l => argA P t ds :: argsA P ts l
  | _, _ => []

section
variable {H : Type} {enc : TypeId × Value → H} {P : Program} {w : World}

theorem arg_vr {ρ : Pos} {t : TypeId} {v : Value} {base : Nat} (hv : Value.okWide P w .any base t v) {sh : Sh} (hs : shOf P 50 t = some sh) {ds : List D} (hd : RowD w ds v.cells.toList) (hok : sh.ok ds) : VR w (Old w) ρ (argA P t ds) v := by
  have aggc : ∀ cs : Array Value, v = .agg cs → VR w (Old w) ρ (.agg (ds.map .d)) v := by
    rintro cs rfl
    have hl := hd.len
    simp only [Value.cells, Array.length_toList] at hl
    have h2 : ∀ j, (Value.agg cs).cells.toList.getD j undef = cs.getD j undef := fun j => toList_getD cs j
    refine .agg _ _ (by simp [hl]) (fun j hj => ?_) (fun j hj => ?_)
    · have := hd.ones j (by simp [Value.cells] at hj ⊢; omega)
      rwa [h2] at this
    · have hj' : j < ds.length := by simpa using hj
      rw [getD_map' _ _ _ D.nilp _ hj']
      have := hd.dr j (by simp [Value.cells]; omega)
      rw [h2] at this
      exact .d _ _ this
  have onec : v.cells = #[v] → VR w (Old w) ρ (.d (ds.getD 0 .nilp)) v := by
    intro h
    have := hd.dr 0 (by rw [h]; simp)
    rw [h] at this
    exact .d _ _ (by simpa using this)
  unfold shOf at hs
  unfold Value.okWide at hv
  unfold argA
  split at hs
  · rename_i hu; rw [hu] at hv ⊢; simp only at hv ⊢
    refine onec ?_
    cases v <;> first | rfl | simp [Cell.okWide, Cell.ok, hu] at hv
  · rename_i k hu; rw [hu] at hv ⊢; simp only at hv ⊢
    refine onec ?_
    cases v <;> first | rfl | simp [Cell.okWide, Cell.ok, hu] at hv
  · rename_i hu; rw [hu] at hv ⊢; simp only at hv ⊢
    refine onec ?_
    cases v <;> first | rfl | simp [Cell.okWide, Cell.ok, hu] at hv
  · rename_i e hu; rw [hu] at hv ⊢; simp only at hv ⊢
    refine onec ?_
    cases v <;> first | rfl | simp [Cell.okWide, Cell.ok, hu] at hv
  · rename_i fs hu; rw [hu] at hv ⊢; simp only at hv ⊢
    obtain ⟨cs, rfl, _⟩ := hv
    exact aggc cs rfl
  · rename_i m e hu; rw [hu] at hv ⊢; simp only at hv ⊢
    obtain ⟨cs, rfl, _⟩ := hv
    exact aggc cs rfl
  · simp at hs

theorem args_read {ρ : Pos} {base : Nat} : ∀ (ts : List TypeId) (vs : List Value) (ds : List (DataW H)) (ps : List MemPlace), DataW.TrodAll enc P w 0 (fun _ => true) true ts vs ds ps → (∀ t, t ∈ ts → ∃ sh, shOf P 50 t = some sh) →
    (DataW.weightsEach P ts ds).all (· ≤ reachBytes) = true → (∀ (j : Nat) t v, ts[j]? = some t → vs[j]? = some v → Value.okWide P w .any base t v) →
    ∃ dss, OkAll P ts dss ∧ (argsA P ts dss).length = vs.length ∧ ∀ i, i < (argsA P ts dss).length → VR w (Old w) ρ ((argsA P ts dss).getD i .unk) (vs.getD i undef)
  | [], vs, ds, ps, h, _, _, _ => by
    obtain ⟨rfl, rfl, rfl⟩ := trodAll_nil h
    exact ⟨[], rfl, rfl, fun i hi => by simp [argsA] at hi⟩
  | t :: ts, vs, ds, ps, h, hsh, hw, hval => by
    obtain ⟨v, vs1, d, ds1, a, b, rfl, rfl, rfl, h1, h2⟩ := trodAll_cons h
    simp only [DataW.weightsEach, List.all_append, Bool.and_eq_true] at hw
    obtain ⟨sh, hs⟩ := hsh t (by simp)
    obtain ⟨fuel, h1⟩ := h1
    obtain ⟨q, q1, q2⟩ := read 50 _ t sh hs fuel _ d a h1 hw.1
    obtain ⟨dss, r1, r2, r3⟩ := args_read ts vs1 ds1 b h2 (fun t ht => hsh t (by simp [ht])) hw.2 (fun j t v ht hv => hval (j + 1) t v (by simpa using ht) (by simpa using hv)) (ρ := ρ)
    refine ⟨q :: dss, ⟨⟨sh, hs, q1⟩, r1⟩, by simp [argsA, r2], fun i hi => ?_⟩
    cases i with
    | zero => exact arg_vr (hval 0 t v rfl rfl) hs q2 q1
    | succ i => exact r3 i (by simpa [argsA] using hi)

theorem trodAll_stays {W W' : World} (hl : laidOutB P = true) (hb : Below W.heap.size W W') (sp : Nat → Bool) : ∀ (ts : List TypeId) (vs : List Value) (ds : List (DataW H)) (ps : List MemPlace), (∀ t, t ∈ ts → P.readableRec t = true ∧ t < P.types.size) →
    (∀ p, p ∈ ps → p.block < W.heap.size ∧ sp p.block = true) → DataW.TrodAll enc P W 0 (fun _ => true) true ts vs ds ps → DataW.TrodAll enc P W' 0 sp true ts vs ds ps
  | [], vs, ds, ps, _, _, h => by
    obtain ⟨rfl, rfl, rfl⟩ := trodAll_nil h
    exact rfl
  | t :: ts, vs, ds, ps, hr, hp, h => by
    obtain ⟨v, vs1, d, ds1, a, b, rfl, rfl, rfl, h1, h2⟩ := trodAll_cons h
    refine ⟨a, b, WideElems.Trod_stays hl (hr t (by simp)).1 (hr t (by simp)).2 h1 (fun x hx => hb.same (hp x (by simp [hx])).1) (fun x hx => (hp x (by simp [hx])).2), ?_, rfl⟩
    exact trodAll_stays hl hb sp ts vs1 ds1 b (fun t ht => hr t (by simp [ht])) (fun p hp' => hp p (by simp [hp'])) h2

theorem rel_old (w : World) (hg : Gl w (Old w)) : Rel w (Old w) (fun _ => none) [] :=
  ⟨fun i => by simp [BlkR], fun i j g β γ h => by simp [Blk.mut] at h, fun _ _ => rfl, fun i g β h => by simp at h, fun g h => h, hg⟩

theorem below_of_evo {w' : World} {S' : Sta} {ρ' : Pos} {H' : Heap} (e : Evo w (Old w) (fun _ => none) [] w' S' ρ' H') : Below w.heap.size w w' :=
  ⟨e.os, e.tape, e.output, e.size, fun k hk => e.frame k hk (by rintro ⟨i, β, h, _⟩; simp [Blk.mut] at h)⟩

/-- The row's contract from the evaluator's answer. -/
theorem law_calls {ir : IR} (ht : Tab P ir) {f : FuncId} {fn : Func} (hfn : P.funcs[f]? = some fn) {s : ChangeSpec} (hl : laidOutB P = true) {tb : TypeId} (hrt : fn.resultTypes = #[tb]) (htb : P.underlying tb = some .bool) (hvars : s.vars = [])
    (hspec : ∀ ds : List (DataW H), ds.length = fn.params.toList.length → s.fn H ds = { results := [.lit (.bool true)], args := ds })
    (hsh : ∀ t, t ∈ fn.params.toList → (∃ sh, shOf P 50 t = some sh) ∧ P.readableRec t = true ∧ t < P.types.size)
    (hV : ∀ dss, OkAll P fn.params.toList dss → call ir f (argsA P fn.params.toList dss) [] = some (.d (.bool true), []))
    {W : World} {base : Nat} {args : Array Value} {ds gs : List (DataW H)} {before : List MemPlace} (hval : ∀ (j : Nat) t v, fn.params[j]? = some t → args[j]? = some v → Value.okWide P W .any base t v)
    (hW : DataW.Whole enc P fn.params.toList s.vars false W args.toList ds gs before) (hw : (DataW.weightsEach P (fn.params.toList ++ s.plain.varTypes P) (ds ++ gs)).all (· ≤ reachBytes) = true) (fresh handsOn : Bool) (hg : Gl W (Old W)) :
    Calls P f args W fun e W' => ∃ v, e = .returned v ∧ s.post enc P fn false fresh handsOn false W args v W' := by
  have hW' := hW
  obtain ⟨p, q, hA, hV', rfl, hfz, hnd⟩ := hW
  rw [hvars] at hV'
  obtain ⟨rfl, rfl⟩ := trodVars_none hV'
  have hvt : s.plain.varTypes P = [] := by simp [DataSpec.varTypes, ChangeSpec.plain, hvars]
  rw [hvt, List.append_nil, List.append_nil] at hw
  obtain ⟨dss, a1, a2, a3⟩ := args_read (ρ := fun _ => none) (base := base) fn.params.toList args.toList ds p hA (fun t ht => (hsh t ht).1) hw (fun j t v h1 h2 => hval j t v (by simpa using h1) (by simpa using h2))
  obtain ⟨_, hc⟩ := call_sound ht f _ _ _ _ (hV dss a1)
  refine (hc W (Old W) (fun _ => none) args (rel_old W hg) (by simpa using a2) (fun i hi => by
    have := a3 i hi
    rwa [toList_getD] at this)).mono fun e W1 hR => ?_
  obtain ⟨cv, S', ρ', rfl, hev, hvr⟩ := hR
  have hcv : cv = .bool true := by cases hvr.dr; rfl
  subst hcv
  have hb := below_of_evo hev
  have hlt : ∀ x, x ∈ p → x.block < W.heap.size := fun x hx => hW'.lt x (by simp [hx])
  have hdl : ds.length = fn.params.toList.length := by
    have : ∀ (ts : List TypeId) (vs : List Value) (ds : List (DataW H)) (ps : List MemPlace), DataW.TrodAll enc P W 0 (fun _ => true) true ts vs ds ps → ds.length = ts.length := by
      intro ts
      induction ts with
      | nil => intro vs ds ps h; obtain ⟨rfl, rfl, rfl⟩ := trodAll_nil h; rfl
      | cons t ts ih => intro vs ds ps h; obtain ⟨v, vs1, d, ds1, a, b, rfl, rfl, rfl, _, h2⟩ := trodAll_cons h; simp [ih _ _ _ h2]
    exact this _ _ _ _ hA
  have hsp : s.fn H (ds ++ []) = { results := [.lit (.bool true)], args := ds } := by rw [List.append_nil]; exact hspec ds hdl
  refine ⟨_, rfl, ds, [], p ++ [], [], p, [], hW', ?_, ?_, ?_, hb.frame _, fun h => by simp at h⟩
  · rw [hsp, hrt]
    exact ⟨[], [], ⟨1, by simp [DataW.trod, htb, Value.cells]⟩, rfl, rfl⟩
  · rw [hsp]
    exact trodAll_stays hl hb _ _ _ _ _ (fun t ht => (hsh t ht).2) (fun x hx => ⟨hlt x hx, by simpa using hlt x hx⟩) hA
  · rw [hsp, hvars]; exact rfl

theorem returns_of {C : Checked} {os : Os} (own : ownKnob C.prog.godebug = none) (started : os.Started) {f : FuncId} (noInit : C.prog.inits.idxOf? f = none) {ir : IR} (ht : Tab C.prog ir) {fn : Func} (hfn : C.prog.funcs[f]? = some fn)
    {s : ChangeSpec} (hl : laidOutB C.prog = true) {tb : TypeId} (hrt : fn.resultTypes = #[tb]) (htb : C.prog.underlying tb = some .bool) (hvars : s.vars = [])
    (hspec : ∀ ds : List (DataW H), ds.length = fn.params.toList.length → s.fn H ds = { results := [.lit (.bool true)], args := ds })
    (hsh : ∀ t, t ∈ fn.params.toList → (∃ sh, shOf C.prog 50 t = some sh) ∧ C.prog.readableRec t = true ∧ t < C.prog.types.size)
    (hV : ∀ dss, OkAll C.prog fn.params.toList dss → call ir f (argsA C.prog fn.params.toList dss) [] = some (.d (.bool true), []))
    (fresh handsOn : Bool)
    (witness : ∃ (w : World) (tape : Tape) (i : Input), w.os = os ∧ (w.forCall tape i).Shaped C.prog ∧ i.vars = [] ∧ Input.okWide C.prog (w.forCall tape i) .any w.heap.size f i ∧
      s.pre6 enc C.prog fn [] false (w.forCall tape i).memory i.args ∧ ({} : Assume).holds C.prog (lone (Frame.enter C.prog f i.args .normal) [] (w.forCall tape i)))
    (hgl : ∀ W : World, Gl W (Old W)) :
    ReturnsInHanded {} C os f .any (s.pre6 enc C.prog fn [] false) (s.post enc C.prog fn false fresh handsOn false) := by
  have h := returnsInHanded_of_change_and (X := fun _ _ => True) (a := {}) (enc := enc) (s := s) (conds := []) (apart := false) (fresh := fresh) (handsOn := handsOn) (again := false) (fun _ _ _ _ h => h) own started noInit hfn
    (by
      obtain ⟨w, tape, i, h1, h2, h3, h4, h5, h6⟩ := witness
      exact ⟨w, tape, i, h1, h2, h3, h4, ⟨⟨h5.1, trivial⟩, h5.2⟩, h6⟩)
    (fun W base args ds gs before hval hW _ hw _ _ => law_calls ht hfn hl hrt htb hvars hspec hsh hV hval hW hw fresh handsOn (hgl W))
  have e : (fun w args => (s.pre enc C.prog fn [] false w args ∧ True) ∧ sizedMet enc C.prog fn (OpenSpec.ofChange s) false w args) = s.pre6 enc C.prog fn [] false := by
    funext w args; simp [ChangeSpec.pre6]
  rw [e] at h
  exact h
/-- The kit's wrap, the world's shape kept. -/
theorem handed_shaped {a : Assume} {C : Checked} {os : Os} {f : FuncId} {fn : Func} {s : ChangeSpec} {conds : List PathCond} {apart fresh handsOn again : Bool} {X : World → Array Value → Prop}
    (hX : ∀ (w w' : World) (args : Array Value), w.heap = w'.heap → X w args → X w' args)
    (own : ownKnob C.prog.godebug = none) (started : os.Started) (noInit : C.prog.inits.idxOf? f = none) (hfn : C.prog.funcs[f]? = some fn)
    (witness : ∃ (w : World) (tape : Tape) (i : Input), w.os = os ∧ (w.forCall tape i).Shaped C.prog ∧ i.vars = [] ∧ Input.okWide C.prog (w.forCall tape i) .any w.heap.size f i ∧
      ((s.pre enc C.prog fn conds apart (w.forCall tape i).memory i.args ∧ X (w.forCall tape i).memory i.args) ∧ sizedMet enc C.prog fn (OpenSpec.ofChange s) apart (w.forCall tape i).memory i.args) ∧ a.holds C.prog (lone (Frame.enter C.prog f i.args .normal) [] (w.forCall tape i)))
    (contract : ∀ (W : World) (base : Nat) (args : Array Value) (ds gs : List (DataW H)) (before : List MemPlace),
      (∀ (j : Nat) t v, fn.params[j]? = some t → args[j]? = some v → Value.okWide C.prog W .any base t v) →
      DataW.Whole enc C.prog fn.params.toList s.vars apart W args.toList ds gs before →
      conds.all (PathCond.test C.prog ⟨fn.params.toList, ds, s.plain.varTypes C.prog, gs⟩) = true →
      (DataW.weightsEach C.prog (fn.params.toList ++ s.plain.varTypes C.prog) (ds ++ gs)).all (· ≤ reachBytes) = true → X W args → W.ShapedOpen C.prog →
      a.holds C.prog (lone (Frame.enter C.prog f args .normal) [] W) →
      Calls C.prog f args W fun e W' => ∃ v, e = .returned v ∧ s.post enc C.prog fn apart fresh handsOn again W args v W') :
    ReturnsInHanded a C os f .any (fun w args => (s.pre enc C.prog fn conds apart w args ∧ X w args) ∧ sizedMet enc C.prog fn (OpenSpec.ofChange s) apart w args) (s.post enc C.prog fn apart fresh handsOn again) := by
  refine returnsInHanded_of_calls own started noInit witness ?_
  intro w tape i _ hsh _ hok hpre hholds
  obtain ⟨_, _, _, fn', hfn', _, _, _, _, hval⟩ := hok
  have e : fn' = fn := Option.some.inj (hfn'.symm.trans hfn)
  subst e
  obtain ⟨⟨⟨ds, gs, before, hw, hc⟩, hx⟩, hz⟩ := hpre
  have hw' := DataW.Whole.of_heap (w' := w.forCall tape i) (by rfl) hw
  refine (contract (w.forCall tape i) w.heap.size i.args ds gs before hval hw' hc (hz.weights hw) (hX _ _ _ (by rfl) hx) hsh hholds).mono fun e W' ⟨v, he, hp⟩ => ?_
  subst he
  exact ChangeSpec.post_blind hp
/-- The same behind a door: the tables stand where the row lists them. -/
theorem returns_laid {C : Checked} {os : Os} {laid : List (String × DataW Unit)} (own : ownKnob C.prog.godebug = none) (started : os.Started) {f : FuncId} (noInit : C.prog.inits.idxOf? f = none) {ir : IR} (ht : Tab C.prog ir) {fn : Func} (hfn : C.prog.funcs[f]? = some fn)
    {s : ChangeSpec} (hl : laidOutB C.prog = true) {tb : TypeId} (hrt : fn.resultTypes = #[tb]) (htb : C.prog.underlying tb = some .bool) (hvars : s.vars = [])
    (hspec : ∀ ds : List (DataW H), ds.length = fn.params.toList.length → s.fn H ds = { results := [.lit (.bool true)], args := ds })
    (hsh' : ∀ t, t ∈ fn.params.toList → (∃ sh, shOf C.prog 50 t = some sh) ∧ C.prog.readableRec t = true ∧ t < C.prog.types.size)
    (hV : ∀ dss, OkAll C.prog fn.params.toList dss → call ir f (argsA C.prog fn.params.toList dss) [] = some (.d (.bool true), []))
    (fresh handsOn : Bool)
    (witness : ∃ (w : World) (tape : Tape) (i : Input), w.os = os ∧ (w.forCall tape i).Shaped C.prog ∧ i.vars = [] ∧ Input.okWide C.prog (w.forCall tape i) .any w.heap.size f i ∧
      ((s.pre enc C.prog fn [] false (w.forCall tape i).memory i.args ∧ laidMetH C.prog laid (w.forCall tape i).memory) ∧ sizedMet enc C.prog fn (OpenSpec.ofChange s) false (w.forCall tape i).memory i.args) ∧ ({} : Assume).holds C.prog (lone (Frame.enter C.prog f i.args .normal) [] (w.forCall tape i)))
    (hgl : ∀ W : World, laidMetH C.prog laid W → W.ShapedOpen C.prog → Gl W (Old W)) :
    ReturnsInHanded {} C os f .any (fun w args => (s.pre enc C.prog fn [] false w args ∧ laidMetH C.prog laid w) ∧ sizedMet enc C.prog fn (OpenSpec.ofChange s) false w args) (s.post enc C.prog fn false fresh handsOn false) :=
  handed_shaped (X := fun w _ => laidMetH C.prog laid w) (a := {}) (enc := enc) (s := s) (conds := []) (apart := false) (fresh := fresh) (handsOn := handsOn) (again := false) (fun _ _ _ hh h => h.of_heap hh) own started noInit hfn witness
    (fun W base args ds gs before hval hW _ hw hX hsh _ => law_calls ht hfn hl hrt htb hvars hspec hsh' hV hval hW hw fresh handsOn (hgl W hX hsh))
end
end Go.Ev
