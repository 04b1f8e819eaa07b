/- The engine, part X: a row, from a contract. -/
import Derived.Test.YtfpdlamjlbpmkaaEngW
import Derived.Carry
namespace Go.Proofs.Ytfpdlamjlbpmkaa.E
open Go
set_option linter.unusedSimpArgs false

def I (n : Int) : V := .val (.int .i64 n)
def Bo (b : Bool) : V := .val (.bool b)
def Sg (s : ByteArray) : V := .val (.string s)

theorem vcP {P : Program} (hmix : P.follows .mixedOrders = true) {f : FuncId} {args : List V} {objs : List E.Obj} (sc : List It) (exports : List Nat) {r : V} {objs' : List (Option E.Obj)} (ps : List Prop)
    (h : runF P f args objs sc exports = some (r, objs', ps)) (hp : allP ps) : Contract P f args objs r objs' := vc hmix h (allP_spec hp)

theorem runP {P : Program} (hmix : P.follows .mixedOrders = true) {k n : Nat} {c : Code} (sc : List It) {s s' : SL} (nm : Norm) {e : Ex} (ps : List Prop) (h : runTo P k n c sc s nm = some (e, s', ps)) (hp : allP ps) : CodeC P k n c s e s' :=
  runTo_says hmix h (allP_spec hp)

def TypedArg (P : Program) (t : TypeId) (v : V) : Prop := match P.underlying t with
  | some (.struct _) => ∃ cs, v = .agg cs ∧ Typed P 8 t cs
  | some (.array _ _) => ∃ cs, v = .agg cs ∧ Typed P 8 t cs
  | _ => Typed P 8 t [v]

def oneB (P : Program) (t : TypeId) : Bool := match P.underlying t with
  | some (.struct _) => true
  | some (.array _ _) => true
  | _ => P.cellsOf t == 1

def TypedArgs (P : Program) : List TypeId → List V → Prop
  | [], vs => vs = []
  | t :: ts, vs => ∃ v us, vs = v :: us ∧ TypedArg P t v ∧ TypedArgs P ts us

theorem typed_int {P : Program} {t : TypeId} {k : IntKind} {d : Nat} {vs : List V} (hu : P.underlying t = some (.int k)) (h : Typed P (d + 1) t vs) : ∃ n, vs = [.val (.int k n)] ∧ (Lit.int k n).wf = true := by
  simpa only [Typed, hu] using h
theorem typed_bool {P : Program} {t : TypeId} {d : Nat} {vs : List V} (hu : P.underlying t = some .bool) (h : Typed P (d + 1) t vs) : ∃ b, vs = [.val (.bool b)] := by
  simpa only [Typed, hu] using h
theorem typed_string {P : Program} {t : TypeId} {d : Nat} {vs : List V} (hu : P.underlying t = some .string) (h : Typed P (d + 1) t vs) : ∃ s, vs = [.val (.string s)] ∧ s.size ≤ maxLen := by
  simpa only [Typed, hu] using h
theorem typed_slice {P : Program} {t e : TypeId} {d : Nat} {vs : List V} (hu : P.underlying t = some (.slice e)) (h : Typed P (d + 1) t vs) : ∃ rows, vs = [.sl (P.cellsOf e) rows] ∧ rows.length ≤ maxLen ∧ ∀ r ∈ rows, Typed P d e r := by
  simpa only [Typed, hu] using h
theorem typed_struct {P : Program} {t : TypeId} {fs : Array Field} {d : Nat} {vs : List V} (hu : P.underlying t = some (.struct fs)) (h : Typed P (d + 1) t vs) : catFields (Typed P d) fs.toList vs := by
  simpa only [Typed, hu] using h
theorem typed_array {P : Program} {t e : TypeId} {n d : Nat} {vs : List V} (hu : P.underlying t = some (.array n e)) (h : Typed P (d + 1) t vs) : catN (Typed P d e) n vs := by
  simpa only [Typed, hu] using h
theorem arg_struct {P : Program} {t : TypeId} {fs : Array Field} {v : V} (hu : P.underlying t = some (.struct fs)) (h : TypedArg P t v) : ∃ cs, v = .agg cs ∧ Typed P 8 t cs := by
  simpa only [TypedArg, hu] using h
theorem arg_array {P : Program} {t e : TypeId} {n : Nat} {v : V} (hu : P.underlying t = some (.array n e)) (h : TypedArg P t v) : ∃ cs, v = .agg cs ∧ Typed P 8 t cs := by
  simpa only [TypedArg, hu] using h
theorem arg_int {P : Program} {t : TypeId} {k : IntKind} {v : V} (hu : P.underlying t = some (.int k)) (h : TypedArg P t v) : ∃ n, v = .val (.int k n) ∧ (Lit.int k n).wf = true := by
  have h : Typed P 8 t [v] := by simpa only [TypedArg, hu] using h
  obtain ⟨n, e, w⟩ := typed_int hu h
  cases e
  exact ⟨n, rfl, w⟩
theorem arg_bool {P : Program} {t : TypeId} {v : V} (hu : P.underlying t = some .bool) (h : TypedArg P t v) : ∃ b, v = .val (.bool b) := by
  have h : Typed P 8 t [v] := by simpa only [TypedArg, hu] using h
  obtain ⟨n, e⟩ := typed_bool hu h
  cases e
  exact ⟨n, rfl⟩
theorem arg_string {P : Program} {t : TypeId} {v : V} (hu : P.underlying t = some .string) (h : TypedArg P t v) : ∃ s, v = .val (.string s) ∧ s.size ≤ maxLen := by
  have h : Typed P 8 t [v] := by simpa only [TypedArg, hu] using h
  obtain ⟨n, e, w⟩ := typed_string hu h
  cases e
  exact ⟨n, rfl, w⟩
theorem arg_slice {P : Program} {t e : TypeId} {v : V} (hu : P.underlying t = some (.slice e)) (h : TypedArg P t v) : ∃ rows, v = .sl (P.cellsOf e) rows ∧ rows.length ≤ maxLen ∧ ∀ r ∈ rows, Typed P 7 e r := by
  have h : Typed P 8 t [v] := by simpa only [TypedArg, hu] using h
  obtain ⟨n, e, w⟩ := typed_slice hu h
  cases e
  exact ⟨n, rfl, w⟩

section
variable {H : Type} {enc : TypeId × Value → H} {P : Program} {w : World}

theorem arg_terms {t : TypeId} {v : Value} {d : DataW H} {ps : List MemPlace} {base : Nat} {τ : Nat → Gh} (hr : readable P 8 t = true) (ho : oneB P t = true) (hw : Value.okWide P w .any base t v)
    (h : DataW.Trod enc P w 0 (fun _ => true) true t v d ps) : ∃ u, TypedArg P t u ∧ u.rep w (Old w) τ v := by
  obtain ⟨fuel, h⟩ := h
  unfold TypedArg
  have one : v.cells.toList = [v] → v.cells.toList.length = P.cellsOf t → ∃ u, Typed P 8 t [u] ∧ u.rep w (Old w) τ v := by
    intro h1 h2
    obtain ⟨vs, k1, k2⟩ := trod_terms 8 fuel t v.cells.toList (d, ps) hr h2 h
    rw [h1] at k2
    match vs, k2 with
    | [u], k2 =>
      simp only [repIL] at k2
      exact ⟨u, k1, rep_of_repI k2.1.1⟩
    | [], k2 => simp [repIL] at k2
    | _ :: _ :: _, k2 => simp [repIL] at k2
  have whole : (∃ cs, v = .agg cs ∧ cs.size = P.cellsOf t ∧ Row.okWide P w .any base t cs) → ∃ u, (∃ cs, u = V.agg cs ∧ Typed P 8 t cs) ∧ u.rep w (Old w) τ v := by
    rintro ⟨cs, rfl, h2, _⟩
    obtain ⟨vs, k1, k2⟩ := trod_terms 8 fuel t cs.toList (d, ps) hr (by simpa using h2) (by simpa [Value.cells] using h)
    exact ⟨.agg vs, ⟨vs, rfl, k1⟩, by simp only [V.rep]; exact ⟨cs, rfl, repL_of_repIL k2⟩⟩
  cases hu : P.underlying t with
  | none => simp [readable, hu] at hr
  | some ty =>
    unfold oneB at ho
    unfold Value.okWide at hw
    rw [hu] at ho hw
    cases ty with
    | struct fs => exact whole hw
    | array n e => exact whole hw
    | bool =>
      simp only [Cell.okWide, hu, Cell.ok] at hw
      simp only [beq_iff_eq] at ho
      split at hw <;> first | exact hw.elim | exact one rfl (by rw [ho]; rfl) | simp_all
    | int k =>
      simp only [Cell.okWide, hu, Cell.ok] at hw
      simp only [beq_iff_eq] at ho
      split at hw <;> first | exact hw.elim | exact one rfl (by rw [ho]; rfl) | simp_all
    | string =>
      simp only [Cell.okWide, hu, Cell.ok] at hw
      simp only [beq_iff_eq] at ho
      split at hw <;> first | exact hw.elim | exact one rfl (by rw [ho]; rfl) | simp_all
    | slice e =>
      simp only [Cell.okWide, hu, Cell.ok] at hw
      simp only [beq_iff_eq] at ho
      split at hw <;> first | exact hw.elim | exact one rfl (by rw [ho]; rfl) | simp_all
    | _ => simp [readable, hu] at hr

theorem args_terms {τ : Nat → Gh} {base : Nat} : ∀ {ts : List TypeId} {vs : List Value} {ds : List (DataW H)} {ps : List MemPlace}, DataW.TrodAll enc P w 0 (fun _ => true) true ts vs ds ps →
    (∀ (j : Nat) (t : TypeId) (v : Value), ts[j]? = some t → vs[j]? = some v → Value.okWide P w .any base t v) → (ts.all fun t => readable P 8 t && oneB P t) = true →
    ds.length = ts.length ∧ ∃ us, TypedArgs P ts us ∧ repL w (Old w) τ us vs
  | [], vs, ds, ps, h, _, _ => by
    obtain ⟨rfl, rfl, rfl⟩ := ChangeShapes.trodAll_nil h
    exact ⟨rfl, [], rfl, by simp only [repL]⟩
  | t :: ts, vs, ds, ps, h, hw, hr => by
    obtain ⟨v, vs1, d, ds1, a, b, rfl, rfl, rfl, h1, h2⟩ := ChangeShapes.trodAll_cons h
    simp only [List.all_cons, Bool.and_eq_true] at hr
    obtain ⟨k1, us, k2, k3⟩ := args_terms h2 (fun j t' v' ht hv => hw (j + 1) t' v' (by simpa using ht) (by simpa using hv)) hr.2
    obtain ⟨u, j1, j2⟩ := arg_terms (τ := τ) hr.1.1 hr.1.2 (hw 0 t v rfl rfl) h1
    exact ⟨by simp [k1], u :: us, ⟨u, us, rfl, j1, k2⟩, by simp only [repL]; exact ⟨j2, k3⟩⟩

theorem trodAll_below {w w' : World} (hl : laidOutB P = true) (hb : RowKit.Below w.heap.size w w') : ∀ {ts : List TypeId} {vs : List Value} {ds : List (DataW H)} {ps : List MemPlace}, DataW.TrodAll enc P w 0 (fun _ => true) true ts vs ds ps →
    (ts.all fun t => P.readableRec t && decide (t < P.types.size)) = true → (∀ x ∈ ps, x.block < w.heap.size) → DataW.TrodAll enc P w' 0 (fun b => decide (b < w.heap.size)) true ts vs ds ps
  | [], vs, ds, ps, h, _, _ => by
    obtain ⟨rfl, rfl, rfl⟩ := ChangeShapes.trodAll_nil h
    simp [DataW.TrodAll]
  | t :: ts, vs, ds, ps, h, hr, hp => by
    obtain ⟨v, vs1, d, ds1, a, b, rfl, rfl, rfl, h1, h2⟩ := ChangeShapes.trodAll_cons h
    simp only [List.all_cons, Bool.and_eq_true, decide_eq_true_eq] at hr
    exact ⟨a, b, RowKit.Below.trod hl hr.1.1 hr.1.2 h1 hb (fun x hx => hp x (by simp [hx])), trodAll_below hl hb h2 hr.2 (fun x hx => hp x (by simp [hx])), rfl⟩

theorem Mem.none (w : World) : Mem w.heap.size (fun _ => False) (Old w) (fun _ => ⟨none, none, 0, 0⟩) (objsAt []) w :=
  ⟨fun _ h => h, fun _ _ h => by simp [objsAt] at h, fun _ _ _ h => by simp [objsAt] at h, fun _ _ _ _ _ h => by simp [objsAt] at h⟩

/-- A law's row, from its contract. -/
theorem row_of {f : FuncId} {fn : Func} {s : ChangeSpec} {apart handsOn fresh : Bool} {tb : TypeId}
    (hl : laidOutB P = true) (hvars : s.vars = []) (hpar : (fn.params.toList.all fun t => readable P 8 t && oneB P t) = true) (hpar2 : (fn.params.toList.all fun t => P.readableRec t && decide (t < P.types.size)) = true)
    (hres : fn.resultTypes = #[tb]) (htb : P.underlying tb = some .bool)
    (hs : ∀ ds : List (DataW H), ds.length = fn.params.toList.length → s.fn H ds = { results := [.lit (.bool true)], args := ds })
    (hc : ∀ us, TypedArgs P fn.params.toList us → Contract P f us [] (.val (.bool true)) []) :
    ∀ (W : World) (base : Nat) (args : Array Value) (ds gs : List (DataW H)) (before : List MemPlace),
      (∀ (j : Nat) t v, fn.params[j]? = some t → args[j]? = some v → Value.okWide P W .any base t v) →
      DataW.Whole enc P fn.params.toList s.vars apart W args.toList ds gs before →
      Calls P f args W fun e W' => ∃ v, e = .returned v ∧ s.post enc P fn apart fresh handsOn false W args v W' := by
  intro W base args ds gs before hval hW
  have hW' := hW
  obtain ⟨p, q, hA, hV, rfl, hfz, hnd⟩ := hW
  obtain ⟨hlen, us, hT, hrep⟩ := args_terms (τ := fun _ => ⟨none, none, 0, 0⟩) hA (fun j t v ht hv => hval j t v (by simpa using ht) (by simpa using hv)) hpar
  rw [hvars] at hV
  obtain ⟨rfl, rfl⟩ : gs = [] ∧ q = [] := by
    cases gs with
    | nil => exact ⟨rfl, hV⟩
    | cons g gs => exact hV.elim
  have hcall := (hc us hT).calls W (Old W) (fun _ => False) (fun _ => ⟨none, none, 0, 0⟩) args (Mem.none W) (fun _ h => h.elim) hrep
  refine Calls.mono hcall ?_
  rintro e W' ⟨v, G', τ', rfl, hext, _, hv, _⟩
  simp only [V.rep, V.repI] at hv
  subst hv
  have hb : RowKit.Below W.heap.size W W' := ⟨hext.os, hext.tape, hext.output, hext.size, fun k hk => hext.block k hk (fun h => h)⟩
  have hlt : ∀ x ∈ p, x.block < W.heap.size := fun x hx => hW'.lt x (by simpa using hx)
  have e1 : s.fn H (ds ++ []) = { results := [.lit (.bool true)], args := ds } := by rw [List.append_nil]; exact hs ds hlen
  refine ⟨_, rfl, ds, [], p ++ [], [], p, [], hW', ?_, ?_, ?_, ?_, fun h => by cases h⟩
  · rw [e1, hres]
    exact ⟨[], [], RowKit.shut_bool htb true, rfl, rfl⟩
  · rw [e1]
    exact trodAll_below hl hb hA hpar2 hlt
  · rw [hvars, e1]
    exact rfl
  · exact hb.frame _

end
end Go.Proofs.Ytfpdlamjlbpmkaa.E
