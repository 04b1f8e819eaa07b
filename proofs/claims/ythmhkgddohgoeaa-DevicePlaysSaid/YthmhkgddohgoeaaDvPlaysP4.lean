/- What all texts of a seat use. -/
import Derived.Test.YthmhkgddohgoeaaChecked
import Derived.Tactics
import Derived.Tactics2
import Derived.Defers
import Derived.Laws.Pointers
import Derived.Laws.LoneSync
import Derived.RegionTactic
import Derived.RegionCalls
import Derived.Shelf.SlIter.Nil
import Derived.Shelf.SortM.Plain
import Derived.Shelf.SortM.SortNone
import Derived.Test.YthmhkgddohgoeaaProg
import Derived.Lib.SliceRun
import Derived.Maps.Own
import Derived.RangeFuncBound
import Derived.Sort.KeysCollected
import Derived.WideShapes
import Derived.Laws.Strings
import Derived.Test.YthmhkgddohgoeaaDvPlaysP3
namespace Go.Proofs.Ythmhkgddohgoeaa
open E
set_option maxRecDepth 100000

theorem hmix : Try.prog.follows .mixedOrders = true := by kernel_rfl

def U (n : Int) : V := .val (.int .u64 n)
end Go.Proofs.Ythmhkgddohgoeaa

/- Lists whose elements are all right, by their places. -/
namespace Go.Proofs.Ythmhkgddohgoeaa
open E
/-- No element is bad at its place. -/
def allI {α : Type} (bad : Nat → α → Bool) (l : List α) : Bool := (List.range l.length).all fun i => match l[i]? with
  | some a => !bad i a
  | none => true
theorem allI_bad {α : Type} {bad : Nat → α → Bool} {l : List α} {i : Nat} {x : α} (h : l[i]? = some x) (hb : bad i x = true) : allI bad l = false := by
  unfold allI
  rw [List.all_eq_false]
  exact ⟨i, List.mem_range.2 (List.getElem?_eq_some_iff.1 h).1, by rw [h]; simp [hb]⟩
theorem allI_good {α : Type} {bad : Nat → α → Bool} {l : List α} (h : ∀ (i : Nat) (x : α), l[i]? = some x → bad i x = false) : allI bad l = true := by
  unfold allI
  rw [List.all_eq_true]
  intro i hi
  cases hx : l[i]? with
  | none => rfl
  | some a => simp [h i a hx]
theorem allI_iff {α : Type} {bad : Nat → α → Bool} {l : List α} : allI bad l = true ↔ ∀ (i : Nat) (x : α), l[i]? = some x → bad i x = false := by
  constructor
  · intro h i x hx
    cases hb : bad i x with
    | false => rfl
    | true => rw [allI_bad hx hb] at h; cases h
  · exact allI_good
/-- A search that ends one way or the other, as a Bool. -/
theorem allI_all {α : Type} {p : α → Bool} {l : List α} : allI (fun _ x => !p x) l = l.all p := by
  cases h : l.all p with
  | true =>
    rw [List.all_eq_true] at h
    exact allI_good fun i x hx => by rw [h x (List.mem_of_getElem? hx)]; rfl
  | false =>
    rw [List.all_eq_false] at h
    obtain ⟨x, hx, hp⟩ := h
    obtain ⟨i, hi⟩ := List.getElem?_of_mem hx
    exact allI_bad hi (by simpa using hp)
/-- A loop that goes through a list and keeps its frame. -/
theorem LoopC.pass {P : Program} {k n : Nat} {c : Code} {α : Type} (l : List α) (S : Nat → SL) {e : Ex} (he : e ≠ .normal)
    (hround : ∀ (i : Nat) (x : α), l[i]? = some x → i < l.length → CodeC P k n c (S i) .normal (S (i + 1)))
    (hend : CodeC P k n c (S l.length) e (S l.length)) : LoopC P k n c (S 0) e (S l.length) := by
  have key : ∀ m i, i + m = l.length → LoopC P k n c (S i) e (S l.length) := by
    intro m
    induction m with
    | zero => intro i h; have : i = l.length := by omega
              subst this; exact LoopC.last hend he
    | succ m ih => intro i h; exact LoopC.next (hround i l[i] (List.getElem?_eq_getElem (by omega)) (by omega)) (ih (i + 1) (by omega))
  exact key l.length 0 (by omega)
theorem baBeq (a b : ByteArray) : (a == b) = (a.data == b.data) := rfl
instance : LawfulBEq ByteArray where
  rfl {a} := by rw [baBeq]; simp
  eq_of_beq {a b} h := by
    rw [baBeq] at h
    cases a; cases b
    simp at h
    rw [h]
end Go.Proofs.Ythmhkgddohgoeaa

/- a device: its files, and that they are made ready once. -/
namespace Go.Proofs.Ythmhkgddohgoeaa
open Go E
set_option maxRecDepth 100000
set_option maxHeartbeats 1600000
set_option linter.unusedVariables false
set_option linter.unusedSimpArgs false

def bR (b : UInt8) : List V := intRow .u8 b.toNat
theorem flatB (l : List UInt8) : FlatRows (l.map bR) := by
  intro r hr
  obtain ⟨b, _, rfl⟩ := List.mem_map.1 hr
  rfl

/-- A file. -/
structure Fi where
  bs : List UInt8
  sure : Int
def Fi.inn (f : Fi) : Inn := .box 1 (f.bs.map bR) [I f.sure]
abbrev Fs := List (ByteArray × Fi)
def mE (fs : Fs) : List (ByteArray × Inn) := fs.map fun p => (p.1, p.2.inn)
/-- A device. -/
structure Dv where
  room : Int
  used : Int
  nl : Bool
  fs : Fs
  fuse : Int
def Dv.cells (d : Dv) (m : Nat) : List V := [I d.room, I d.used, .val (.int .u32 (bif d.nl then 0 else 1)), .val (.int .i32 0), .val (.int .u32 0), .mref m, I d.fuse]
def Dv.box (d : Dv) (m : Nat) : E.Obj := .box (d.cells m)
def Dv.map (d : Dv) : E.Obj := .nest (.mp d.nl (mE d.fs)) []

theorem addC {x d s : Int} (hs : IntKind.i64.wrap (x + d) = s) : CellC Try.prog 37 .i64 x s [.int .i64 d] (.int .i64 s) := by
  refine ⟨⟨_, Try.func37, ne_of_beq_false (by kernel_rfl), by kernel_rfl⟩, fun w a hc hz => ?_⟩
  have hadd := run_call_add (P := Try.prog) Try.func48 (by kernel_rfl) (by kernel_rfl) (by kernel_rfl) .i64 (by kernel_rfl) (y := d) (s := s) hc hz (by simp [go_sem]; exact hs)
  go_enter Try.func37, Try.ntmps37
  go_wp2
  go_ret
  exact ⟨rfl, rfl⟩
theorem loadC {x : Int} : CellC Try.prog 39 .i64 x x [] (.int .i64 x) := by
  refine ⟨⟨_, Try.func39, ne_of_beq_false (by kernel_rfl), by kernel_rfl⟩, fun w a hc hz => ?_⟩
  have hl := run_call_load (P := Try.prog) Try.func49 (by kernel_rfl) (by kernel_rfl) (by kernel_rfl) .i64 (by kernel_rfl) (x := x) hc
  rw [w_same w a _ hc]
  go_enter Try.func39, Try.ntmps39
  go_wp2
  go_ret
  exact ⟨rfl, rfl⟩

theorem oDisable (w : World) : (callFunc 66 #[]).run Try.prog w = .ok (.value (.tuple #[])) w := run_call_mark0 Try.func66 (by kernel_rfl) (by kernel_rfl) (by kernel_rfl) .disable (by kernel_rfl) w
theorem oEnable (w : World) : (callFunc 68 #[]).run Try.prog w = .ok (.value (.tuple #[])) w := run_call_mark0 Try.func68 (by kernel_rfl) (by kernel_rfl) (by kernel_rfl) .enable (by kernel_rfl) w
theorem oAcquire (a : Addr) (w : World) : (callFunc 69 #[.pointer (some a)]).run Try.prog w = .ok (.value (.tuple #[])) w := run_call_marked Try.func69 (by kernel_rfl) (by kernel_rfl) (by kernel_rfl) .acquire (by kernel_rfl) a w
theorem oRelease (a : Addr) (w : World) : (callFunc 71 #[.pointer (some a)]).run Try.prog w = .ok (.value (.tuple #[])) w := run_call_marked Try.func71 (by kernel_rfl) (by kernel_rfl) (by kernel_rfl) .releaseMerge (by kernel_rfl) a w
theorem oStore (a : Addr) (x : Value) (u : FrameMode) (w : World) (hc : w.cell? a = some x) (hz : w.frozen? a = false) :
    CallsD Try.prog 55 #[.pointer (some a), .bool true] u w fun e u' w' => u' = u ∧ (e = .returned (.tuple #[]) ∧ w' = w.drew.setCell a (.int .u32 1)) := by
  have hc' : w.drew.cell? a = some x := by go_simp
  have hz' : w.drew.frozen? a = false := by go_simp
  have hst := run_call_store (P := Try.prog) Try.func61 (by kernel_rfl) (by kernel_rfl) (by kernel_rfl) (by kernel_rfl) (k := .u32) (y := 1) hc' hz'
  go_enter_d Try.func55, Try.ntmps55
  go_wp2
  go_region_calls
  all_goals (go_end0; exact ⟨rfl, rfl⟩)
theorem oUnlock (a : Addr) (u : FrameMode) (w : World) (hc : w.cell? a = some (.int .i32 1)) (hz : w.frozen? a = false) :
    CallsD Try.prog 54 #[.pointer (some a)] u w fun e u' w' => u' = u ∧ (e = .returned (.tuple #[]) ∧ w' = w.setCell a (.int .i32 0)) := by
  have hd := oDisable
  have he := oEnable
  have hr := oRelease
  have hadd := run_call_add (P := Try.prog) Try.func72 (by kernel_rfl) (by kernel_rfl) (by kernel_rfl) .i32 (by kernel_rfl) (y := -1) (s := 0) hc hz (by simp [go_sem]; rfl)
  have hcv := run_convert_to_unsafe (P := Try.prog) (src := 111) (dst := 115) Try.underlying111 Try.underlying115 (by kernel_rfl) hc
  go_enter_d Try.func54, Try.ntmps54
  go_wp2
  go_end0
  go_wp2
  go_end0
  exact ⟨rfl, rfl⟩
theorem oLock (a : Addr) (w : World) (hc : w.cell? a = some (.int .i32 0)) (hz : w.frozen? a = false) :
    Calls Try.prog 53 #[.pointer (some a)] w fun e w' => e = .returned (.tuple #[]) ∧ w' = w.setCell a (.int .i32 1) := by
  have hd := oDisable
  have he := oEnable
  have ha := oAcquire
  have hcas := run_call_cas_hit (P := Try.prog) Try.func67 (by kernel_rfl) (by kernel_rfl) (by kernel_rfl) .i32 (by kernel_rfl) (y := 1) hc hz
  have hc' : (w.setCell a (.int .i32 1)).cell? a = some (.int .i32 1) := World.cell?_setCell_same w a _ hc
  have hcv := run_convert_to_unsafe (P := Try.prog) (src := 111) (dst := 115) Try.underlying111 Try.underlying115 (by kernel_rfl) hc'
  go_enter Try.func53, Try.ntmps53
  go_wp2
  first | go_end0 | (simp only [Exit.inBlock, Exit.then]; refine bodyPost_ret (results_none rfl _ _ _) rfl ?_) | refine bodyPost_ret (results_none rfl _ _ _) rfl ?_
  go_wp2
  go_end0
  exact ⟨rfl, rfl⟩
theorem oReady (b : Nat) (x5 : Value) (w : World) (h5 : w.cell? ⟨b, 5, none⟩ = some x5) (f5 : w.frozen? ⟨b, 5, none⟩ = false) (hb : b < w.heap.size) :
    Calls Try.prog 36 #[.pointer (some ⟨b, 0, none⟩)] w fun e w' => e = .returned (.tuple #[]) ∧ w' = (w.setCell ⟨b, 5, none⟩ (.map (some w.heap.size))).alloc (.map #[] 0) := by
  have e5 : (w.alloc (.map #[] 0)).cell? ⟨b, 5, none⟩ = some x5 := by rw [World.cell?_alloc_past _ _ _ hb]; exact h5
  have z5 : (w.alloc (.map #[] 0)).frozen? ⟨b, 5, none⟩ = false := by rw [World.frozen?_alloc_past _ _ _ hb]; exact f5
  have hmk : (Instr.makeMap 72 none).run Try.prog w = .ok (.map (some w.heap.size)) (w.alloc (.map #[] 0)) := rfl
  go_enter Try.func36, Try.ntmps36
  go_wp2
  go_end0
  exact ⟨rfl, rfl⟩
theorem oLoad (a : Addr) (x : Int) (w : World) (hc : w.cell? a = some (.int .u32 x)) : Calls Try.prog 46 #[.pointer (some a)] w fun e w' => e = .returned (.bool (x != 0)) ∧ w' = w := by
  have hl := run_call_load (P := Try.prog) Try.func52 (by kernel_rfl) (by kernel_rfl) (by kernel_rfl) .u32 (by kernel_rfl) (x := x) hc
  go_enter Try.func46, Try.ntmps46
  go_wp2
  go_ret
  exact ⟨rfl, rfl⟩
/-- The world when the files have been made ready. -/
def madeW (b : Nat) (w : World) : World := ((((w.setCell ⟨b, 3, none⟩ (.int .i32 1)).setCell ⟨b, 5, none⟩ (.map (some w.heap.size))).alloc (.map #[] 0)).drew.setCell ⟨b, 2, none⟩ (.int .u32 1)).setCell ⟨b, 3, none⟩ (.int .i32 0)
theorem oSlow (b : Nat) (x5 : Value) (w : World) (hb : b < w.heap.size) (h2 : w.cell? ⟨b, 2, none⟩ = some (.int .u32 0)) (h3 : w.cell? ⟨b, 3, none⟩ = some (.int .i32 0)) (h5 : w.cell? ⟨b, 5, none⟩ = some x5)
    (f2 : w.frozen? ⟨b, 2, none⟩ = false) (f3 : w.frozen? ⟨b, 3, none⟩ = false) (f5 : w.frozen? ⟨b, 5, none⟩ = false) :
    Calls Try.prog 47 #[.pointer (some ⟨b, 2, none⟩), .func (.func 36) #[.pointer (some ⟨b, 0, none⟩)] #[]] w fun e w' => e = .returned (.tuple #[]) ∧ w' = madeW b w := by
  unfold madeW
  have h21 : (w.setCell ⟨b, 3, none⟩ (.int .i32 1)).cell? ⟨b, 2, none⟩ = some (.int .u32 0) := (World.cell?_setCell_other _ ⟨b, 3, none⟩ ⟨b, 2, none⟩ _ (by simp)).trans h2
  have h51 : (w.setCell ⟨b, 3, none⟩ (.int .i32 1)).cell? ⟨b, 5, none⟩ = some x5 := (World.cell?_setCell_other _ ⟨b, 3, none⟩ ⟨b, 5, none⟩ _ (by simp)).trans h5
  have hnot : ∀ (x : Bool) (w : World), (Op.unary .not (.bool x)).run Try.prog w = .ok (.bool (!x)) w := fun _ _ => rfl
  go_enter_defers Try.func47, Try.ntmps47
  go_wp2_with (first
    | (go_at_call 53; refine (oLock ⟨b, 3, none⟩ _ (by go_simp) (by go_simp)).mono ?_; rintro e w' ⟨rfl, rfl⟩)
    | (go_at_call 46; refine (oLoad ⟨b, 2, none⟩ 0 _ h21).mono ?_; rintro e w' ⟨rfl, rfl⟩)
    | (go_at_call 36; refine (oReady b x5 _ h51 (by simp [f5]) (by simpa using hb)).mono ?_; rintro e w' ⟨rfl, rfl⟩))
  have c2 : (((w.setCell ⟨b, 3, none⟩ (.int .i32 1)).setCell ⟨b, 5, none⟩ (.map (some w.heap.size))).alloc (.map #[] 0)).cell? ⟨b, 2, none⟩ = some (.int .u32 0) := by
    rw [World.cell?_alloc_past _ _ _ (by simpa using hb)]
    exact (World.cell?_setCell_other _ ⟨b, 5, none⟩ ⟨b, 2, none⟩ _ (by simp)).trans h21
  have c3 : ((((w.setCell ⟨b, 3, none⟩ (.int .i32 1)).setCell ⟨b, 5, none⟩ (.map (some w.heap.size))).alloc (.map #[] 0)).drew.setCell ⟨b, 2, none⟩ (.int .u32 1)).cell? ⟨b, 3, none⟩ = some (.int .i32 1) := by
    refine (World.cell?_setCell_other _ ⟨b, 2, none⟩ ⟨b, 3, none⟩ _ (by simp)).trans ?_
    rw [World.cell?_drew, World.cell?_alloc_past _ _ _ (by simpa using hb)]
    exact (World.cell?_setCell_other _ ⟨b, 5, none⟩ ⟨b, 3, none⟩ _ (by simp)).trans (World.cell?_setCell_same w _ _ h3)
  refine leaves_cons (f := 55) (args := #[.pointer (some ⟨b, 2, none⟩), .bool true]) (by simp) (by simp [go_sem]) ?_
  refine (oStore ⟨b, 2, none⟩ (.int .u32 0) .returning _ c2 ?_).mono ?_
  · rw [World.frozen?_alloc_past _ _ _ (by simpa using hb)]; simp [f2]
  rintro e u' w'' ⟨rfl, rfl, rfl⟩
  refine leaves_cons (f := 54) (args := #[.pointer (some ⟨b, 3, none⟩)]) (by simp [Go.settle]) (by simp [go_sem]) ?_
  refine (oUnlock ⟨b, 3, none⟩ _ _ c3 ?_).mono ?_
  · simp only [World.frozen?_setCell, World.frozen?_drew]
    rw [World.frozen?_alloc_past _ _ _ (by simpa using hb)]; simp [f3]
  rintro e u' w'' ⟨rfl, rfl, rfl⟩
  simp [Leaves, Go.settle, results, Try.results47]
theorem oDo (b : Nat) (x5 : Value) (w : World) (hb : b < w.heap.size) (h2 : w.cell? ⟨b, 2, none⟩ = some (.int .u32 0)) (h3 : w.cell? ⟨b, 3, none⟩ = some (.int .i32 0)) (h5 : w.cell? ⟨b, 5, none⟩ = some x5)
    (f2 : w.frozen? ⟨b, 2, none⟩ = false) (f3 : w.frozen? ⟨b, 3, none⟩ = false) (f5 : w.frozen? ⟨b, 5, none⟩ = false) :
    Calls Try.prog 35 #[.pointer (some ⟨b, 2, none⟩), .func (.func 36) #[.pointer (some ⟨b, 0, none⟩)] #[]] w fun e w' => e = .returned (.tuple #[]) ∧ w' = madeW b w := by
  have hnot : ∀ (x : Bool) (w : World), (Op.unary .not (.bool x)).run Try.prog w = .ok (.bool (!x)) w := fun _ _ => rfl
  go_enter Try.func35, Try.ntmps35
  go_wp2_with (first
    | (go_at_call 46; refine (oLoad ⟨b, 2, none⟩ 0 _ h2).mono ?_; rintro e w' ⟨rfl, rfl⟩)
    | (go_at_call 47; refine (oSlow b x5 _ hb h2 h3 h5 f2 f3 f5).mono ?_; rintro e w' ⟨rfl, rfl⟩))
  go_end0
  exact ⟨rfl, rfl⟩
theorem oDone (b : Nat) (x : Int) (hx : x ≠ 0) (g : Value) (w : World) (h2 : w.cell? ⟨b, 2, none⟩ = some (.int .u32 x)) :
    Calls Try.prog 35 #[.pointer (some ⟨b, 2, none⟩), g] w fun e w' => e = .returned (.tuple #[]) ∧ w' = w := by
  have hnot : ∀ (x : Bool) (w : World), (Op.unary .not (.bool x)).run Try.prog w = .ok (.bool (!x)) w := fun _ _ => rfl
  have hx' : (x != 0) = true := by simpa using hx
  go_enter Try.func35, Try.ntmps35
  go_wp2_with (go_at_call 46; refine (oLoad ⟨b, 2, none⟩ x _ h2).mono ?_; rw [hx']; rintro e w' ⟨rfl, rfl⟩)
  go_end0
  exact ⟨rfl, rfl⟩
end Go.Proofs.Ythmhkgddohgoeaa

/- the files are made ready, once: the contract. -/
namespace Go.Proofs.Ythmhkgddohgoeaa
open Go E
set_option maxRecDepth 100000
set_option linter.unusedVariables false
set_option linter.unusedSimpArgs false

/-- What the pieces of a device are in memory. -/
theorem dv_at {base : Nat} {X G : Nat → Prop} {τ : Nat → Gh} {w : World} {d : Dv} (hm : Mem base X G τ (objsAt [d.box 1, d.map]) w) :
    ∃ b x4 t fz, (τ 0).blk = some b ∧ w.heap[b]? = some (.cells #[.int .i64 d.room, .int .i64 d.used, .int .u32 (bif d.nl then 0 else 1), .int .i32 0, .int .u32 0, x4, .int .i64 d.fuse] t fz) ∧ x4 = .map (τ 1).blk ∧ ¬ G b ∧ Free fz 7 := by
  have hok := hm.ok 0 _ rfl
  simp only [Dv.box, Dv.cells, Obj.ok] at hok
  obtain ⟨b, xs, t, fz, h1, h2, h3, h4, h5⟩ := hok
  obtain ⟨l⟩ := xs
  match l, h5 with
  | [x0, x1, x2, x3, x4, x5, x6], h5 =>
    simp only [repL, V.rep, V.repI, and_true] at h5
    obtain ⟨rfl, rfl, rfl, rfl, rfl, h6, rfl⟩ := h5
    exact ⟨b, _, t, fz, h1, h2, h6, h3, h4⟩

theorem fr_at {w : World} {b i : Nat} {xs : Array Value} {t : TypeId} {fz : Nat × Nat} (h : w.heap[b]? = some (.cells xs t fz)) (hf : Free fz 7) (hi : i < 7) : w.frozen? ⟨b, i, none⟩ = false := by
  have := hf i hi
  simp only [World.frozen?, h]
  rw [Bool.and_eq_false_iff, decide_eq_false_iff_not, decide_eq_false_iff_not]
  by_cases h : fz.1 ≤ i
  · exact .inr fun h2 => this ⟨h, h2⟩
  · exact .inl h

/-- The files are made ready, once. -/
theorem cOnce (d : Dv) (hd : d.nl = true → d.fs = []) : Contract Try.prog 35 [.ptr 0 0 0 2, .clo (.func 36) [.ptr 0 0 0 0] []] [d.box 1, d.map] (.val (.tuple #[])) [some ({d with nl := false}.box 2), none, some {d with nl := false}.map] := by
  have hgo : ∃ fn, Try.prog.funcs[35]? = some fn ∧ fn.name ≠ "runtime.NumGoroutine" ∧ fn.body.isSome = true := ⟨_, Try.func35, ne_of_beq_false (by kernel_rfl), by kernel_rfl⟩
  have args : ∀ {w : World} {G : Nat → Prop} {τ : Nat → Gh} {b : Nat} {vals : Array Value}, (τ 0).blk = some b → repL w G τ [.ptr 0 0 0 2, .clo (.func 36) [.ptr 0 0 0 0] []] vals.toList →
      vals = #[.pointer (some ⟨b, 2, none⟩), .func (.func 36) #[.pointer (some ⟨b, 0, none⟩)] #[]] := by
    intro w G τ b vals hb ha
    obtain ⟨l⟩ := vals
    match l, ha with
    | [p, f], ha =>
      simp only [repL, V.rep, and_true] at ha
      obtain ⟨⟨b1, e1, rfl⟩, xs, ys, rfl, e3, e4⟩ := ha
      rw [hb] at e1; cases e1
      obtain ⟨xs⟩ := xs
      obtain ⟨ys⟩ := ys
      match xs, e3, ys, e4 with
      | [x], e3, [], _ =>
        simp only [repL, V.rep, and_true] at e3
        obtain ⟨b2, e2, rfl⟩ := e3
        rw [hb] at e2; cases e2
        rfl
  cases hn : d.nl with
  | false =>
    have hds : ({d with nl := false} : Dv) = d := by cases d; simp at hn; simp [hn]
    rw [hds]
    refine Contract.renMap (cells := d.cells 1) (cells' := d.cells 2) rfl ⟨hgo, fun w G X τ vals hm hX ha => ?_⟩ (fun _ _ h => by simpa only [V.rep] using h) (fun h0 h2 h => ?_)
    · obtain ⟨b, x4, t, fz, k1, k2, k3, k4, k5⟩ := dv_at hm
      rw [args k1 ha]
      refine Calls.mono (oDone b 1 (by decide) _ w (by rw [cell_of_heap k2]; simp [hn])) ?_
      rintro e w' ⟨rfl, rfl⟩
      refine ⟨_, G, τ, rfl, Ext.refl _ _ _ _, fun _ _ => rfl, by simp only [V.rep, V.repI], ?_⟩
      have e : objsAt' [some (.box (d.cells 1)), some (.nest (.mp d.nl (mE d.fs)) [])] = objsAt [d.box 1, d.map] := by
        funext i
        match i with
        | 0 => rfl
        | 1 => rfl
        | i + 2 => rfl
      rw [e]; exact hm
    · revert h
      simp only [Dv.cells]
      rename_i xs
      match xs with
      | [a, b, c, e, f, g, h] =>
        simp only [repL, V.rep, V.repI, h2]
        exact id
      | [] | [_] | [_, _] | [_, _, _] | [_, _, _, _] | [_, _, _, _, _] | [_, _, _, _, _, _] => simp [repL]
      | _ :: _ :: _ :: _ :: _ :: _ :: _ :: _ :: _ => simp [repL]
  | true =>
    refine ⟨hgo, fun w G X τ vals hm hX ha => ?_⟩
    obtain ⟨b, x4, t, fz, k1, k2, k3, k4, k5⟩ := dv_at hm
    have hblt : b < w.heap.size := lt_of_get k2
    rw [args k1 ha]
    have hcell : ∀ i (hi : i < 7), w.cell? ⟨b, i, none⟩ = #[Value.int .i64 d.room, .int .i64 d.used, .int .u32 (bif d.nl then 0 else 1), .int .i32 0, .int .u32 0, x4, .int .i64 d.fuse][i]? := fun i _ => cell_of_heap k2
    refine Calls.mono (oDo b x4 w hblt (by rw [hcell 2 (by omega)]; simp [hn]) (by rw [hcell 3 (by omega)]; rfl) (by rw [hcell 5 (by omega)]; rfl) (fr_at k2 k5 (by omega)) (fr_at k2 k5 (by omega)) (fr_at k2 k5 (by omega))) ?_
    rintro e w' ⟨rfl, rfl⟩
    have hcl : Closed [0, 1] (objsAt [d.box 1, d.map]) := by
      intro i o ho
      match i, ho with
      | 0, ho =>
        simp only [objsAt, List.getElem?_cons_zero, Option.some.injEq] at ho
        subst ho
        exact ⟨by simp, fun j hj => by simp [Dv.box, Dv.cells, idsObj, idsL, V.ids, I] at hj; simp [hj]⟩
      | 1, ho =>
        simp only [objsAt, List.getElem?_cons_succ, List.getElem?_cons_zero, Option.some.injEq] at ho
        subst ho
        exact ⟨by simp, fun j hj => by simp [Dv.map, idsObj] at hj⟩
      | i + 2, ho => simp [objsAt] at ho
    obtain ⟨m1, x1⟩ := Mem.newMap (site := 2) hm (Nat.le_refl _) hcl (by simp)
    -- the world behind
    have hW : (madeW b w).heap.size = (w.alloc (.map #[] 0)).heap.size ∧ (madeW b w).heap[b]? = some (.cells #[.int .i64 d.room, .int .i64 d.used, .int .u32 1, .int .i32 0, .int .u32 0, .map (some w.heap.size), .int .i64 d.fuse] t fz) ∧
        (∀ k, k ≠ b → (madeW b w).heap[k]? = (w.alloc (.map #[] 0)).heap[k]?) ∧ (madeW b w).os = w.os ∧ (madeW b w).tape = w.tape ∧ (madeW b w).output = w.output := by
      have g1 := setCell_heap (i := 3) (.int .i32 1) k2
      have g2 := setCell_heap (i := 5) (.map (some w.heap.size)) g1
      have g3 : (((w.setCell ⟨b, 3, none⟩ (.int .i32 1)).setCell ⟨b, 5, none⟩ (.map (some w.heap.size))).alloc (.map #[] 0)).heap[b]? = _ := (alloc_get _ _ b (lt_of_get g2)).trans g2
      have g4 := setCell_heap (w := (((w.setCell ⟨b, 3, none⟩ (.int .i32 1)).setCell ⟨b, 5, none⟩ (.map (some w.heap.size))).alloc (.map #[] 0)).drew) (i := 2) (.int .u32 1) g3
      have g5 := setCell_heap (i := 3) (.int .i32 0) g4
      refine ⟨by simp [madeW], ?_, fun k hk => ?_, rfl, rfl, rfl⟩
      · have : (madeW b w).heap[b]? = _ := g5
        rw [this]; rfl
      · unfold madeW
        rw [heap_setCell_other _ ⟨b, 3, none⟩ k _ hk, heap_setCell_other _ ⟨b, 2, none⟩ k _ hk]
        show (((w.setCell ⟨b, 3, none⟩ (.int .i32 1)).setCell ⟨b, 5, none⟩ (.map (some w.heap.size))).heap.push _)[k]? = (w.heap.push _)[k]?
        rw [Array.getElem?_push, Array.getElem?_push, heap_setCell_other _ ⟨b, 5, none⟩ k _ hk, heap_setCell_other _ ⟨b, 3, none⟩ k _ hk]
        simp
    obtain ⟨w1, w2, w3, w4, w5, w6⟩ := hW
    have hs2 : ∀ i, i ≠ 2 → setGh τ 2 ⟨some w.heap.size, none, 0, 0⟩ i = τ i := fun i hi => setGh_ne hi
    have m2 := Mem.set (id := 0) (b := b) (w' := madeW b w) (o' := {d with nl := false}.box 2) m1 (o := d.box 1) rfl (by rw [hs2 0 (by omega)]; exact k1) w1 w3 (by
      simp only [Dv.box, Dv.cells, Obj.ok]
      refine ⟨b, _, t, fz, by rw [hs2 0 (by omega)]; exact k1, w2, k4, k5, ?_⟩
      simp [repL, V.rep, V.repI, setGh_same, I])
    refine ⟨_, G, _, rfl, ?_, fun i hi => hs2 i (by simp at hi; omega), by simp only [V.rep, V.repI], ?_⟩
    · refine ⟨w4, w5, w6, by rw [w1, alloc_size]; omega, fun k hk hx => ?_, fun k hk => ⟨hk, ?_⟩, fun k hk => .inl hk⟩
      · have hkb : k ≠ b := fun e => by
          subst e
          rcases hm.own 0 _ k rfl k1 with h | h
          · omega
          · exact hx h
        rw [w3 k hkb]; exact x1.block k hk hx
      · rw [w3 k (fun e => k4 (e ▸ hk))]; exact (x1.keep k hk).2
    · have hfs := hd hn
      have sub : ∀ i p, objsAt' [some ({d with nl := false}.box 2), none, some {d with nl := false}.map] i = some p → putSt (putSt (objsAt [d.box 1, d.map]) [(2, some (.nest (.mp false []) []))]) [(0, some ({d with nl := false}.box 2))] i = some p := by
        intro i p hp
        match i, hp with
        | 0, hp => simpa [objsAt', putSt] using hp
        | 1, hp => simp [objsAt'] at hp
        | 2, hp => simpa [objsAt', putSt, Dv.map, mE, hfs] using hp
        | i + 3, hp => simp [objsAt'] at hp
      exact ⟨m2.gold, fun i p hp => m2.ok i p (sub i p hp), fun i p k hp => m2.own i p k (sub i p hp), fun i j p q k hp hq => m2.inj i j p q k (sub i p hp) (sub j q hq), Sub.less m2.sub (fun i p hp _ => sub i p hp) (fun i p hp => ⟨p, sub i p hp⟩)⟩
end Go.Proofs.Ythmhkgddohgoeaa

/- a device: what needs no file. -/
namespace Go.Proofs.Ythmhkgddohgoeaa
open E
set_option maxRecDepth 100000
set_option linter.unusedVariables false
set_option linter.unusedSimpArgs false

theorem cMay_0 (d : Dv)  (tq0 : (Dv.fuse d == (0 : Int)) = true) : Contract Try.prog 34 [.ptr 0 0 0 0] [d.box 1, d.map] (I (5 : Int)) ([some (Obj.box [I (Dv.room d), I (Dv.used d), V.val (Value.int IntKind.u32 (bif Dv.nl d then (0 : Int) else (1 : Int))), V.val (Value.int IntKind.i32 (0 : Int)), V.val (Value.int IntKind.u32 (0 : Int)), V.mref (1 : Nat), I (Dv.fuse d)]), some (Obj.nest (Nest.mp (Dv.nl d) (mE (Dv.fs d))) [])]) :=
  vcP hmix [.reg 3 [(5, [], some true)]] [] [
      (Dv.fuse d == (0 : Int)) = true] (by kernel_rfl)
    (by
      have d0 := tq0
      try simp only [Int.ofNat_eq_natCast, List.length_map, Bool.not_eq_true', Bool.not_eq_false', decide_eq_true_eq, decide_eq_false_iff_not] at d0
      simp only [allP]
      and_intros <;> first
        | omega)

theorem cMay_1 (d : Dv)  (tq0 : (Dv.fuse d == (0 : Int)) = false) : Contract Try.prog 34 [.ptr 0 0 0 0] [d.box 1, d.map] (I (0 : Int)) ([some (Obj.box [I (Dv.room d), I (Dv.used d), V.val (Value.int IntKind.u32 (bif Dv.nl d then (0 : Int) else (1 : Int))), V.val (Value.int IntKind.i32 (0 : Int)), V.val (Value.int IntKind.u32 (0 : Int)), V.mref (1 : Nat), I (Dv.fuse d)]), some (Obj.nest (Nest.mp (Dv.nl d) (mE (Dv.fs d))) [])]) :=
  vcP hmix [.reg 3 [(5, [], some false)]] [] [
      (Dv.fuse d == (0 : Int)) = false] (by kernel_rfl)
    (by
      have d0 := tq0
      try simp only [Int.ofNat_eq_natCast, List.length_map, Bool.not_eq_true', Bool.not_eq_false', decide_eq_true_eq, decide_eq_false_iff_not] at d0
      simp only [allP]
      and_intros <;> first
        | omega)

theorem cMay (d : Dv)  : Contract Try.prog 34 [.ptr 0 0 0 0] [d.box 1, d.map] (I (bif decide (d.fuse = 0) then 5 else 0)) [some (d.box 1), some d.map] := by
  rcases tf (Dv.fuse d == (0 : Int)) with tq0 | tq0
  · exact Contract.cast (by
      first
        | ((try simp only [Int.ofNat_eq_natCast, List.length_map, Bool.not_eq_true', Bool.not_eq_false', decide_eq_true_eq, decide_eq_false_iff_not] at tq0); simp only [Bool.cond_eq_ite, Bool.and_eq_true, Bool.or_eq_true, Bool.not_eq_true', decide_eq_true_eq, beq_iff_eq, beq_eq_false_iff_ne, ne_eq]; (repeat' split) <;> first | rfl | (exfalso; omega) | omega | (simp_all; done) | (exfalso; simp_all; omega))) (by
      first
        | rfl) (cMay_0 d  tq0)
  · exact Contract.cast (by
      first
        | ((try simp only [Int.ofNat_eq_natCast, List.length_map, Bool.not_eq_true', Bool.not_eq_false', decide_eq_true_eq, decide_eq_false_iff_not] at tq0); simp only [Bool.cond_eq_ite, Bool.and_eq_true, Bool.or_eq_true, Bool.not_eq_true', decide_eq_true_eq, beq_iff_eq, beq_eq_false_iff_ne, ne_eq]; (repeat' split) <;> first | rfl | (exfalso; omega) | omega | (simp_all; done) | (exfalso; simp_all; omega))) (by
      first
        | rfl) (cMay_1 d  tq0)

/-- A call went through. -/
def Dv.went (d : Dv) : Dv := { d with fuse := bif decide (d.fuse > 0) then d.fuse - 1 else d.fuse }
theorem cDone__0 (d : Dv) (hf : d.fuse ≤ 9223372036854775807) (tq0 : (decide (Dv.fuse d > (0 : Int))) = true) : Contract Try.prog 38 [.ptr 0 0 0 0] [d.box 1, d.map] (I (0 : Int)) ([some (Obj.box [I (Dv.room d), I (Dv.used d), V.val (Value.int IntKind.u32 (bif Dv.nl d then (0 : Int) else (1 : Int))), V.val (Value.int IntKind.i32 (0 : Int)), V.val (Value.int IntKind.u32 (0 : Int)), V.mref (1 : Nat), I (Dv.fuse d + (-1 : Int))]), some (Obj.nest (Nest.mp (Dv.nl d) (mE (Dv.fs d))) [])]) :=
  vcP hmix [.reg 1 [(4, [], some true)], .reg 2 [(4, [.be (I (d.fuse - 1))], none)]] [] [
      decide (Dv.fuse d > (0 : Int)) = true,
      IntKind.wrap IntKind.i64 (Dv.fuse d + (-1 : Int)) = Dv.fuse d + (-1 : Int)] (by kernel_rfl)
    (by
      have d0 := tq0
      try simp only [Int.ofNat_eq_natCast, List.length_map, Bool.not_eq_true', Bool.not_eq_false', decide_eq_true_eq, decide_eq_false_iff_not] at d0
      simp only [allP]
      and_intros <;> first
        | omega
        | exact i64_small (by omega))

theorem cDone__1 (d : Dv) (hf : d.fuse ≤ 9223372036854775807) (tq0 : (decide (Dv.fuse d > (0 : Int))) = false) : Contract Try.prog 38 [.ptr 0 0 0 0] [d.box 1, d.map] (I (0 : Int)) ([some (Obj.box [I (Dv.room d), I (Dv.used d), V.val (Value.int IntKind.u32 (bif Dv.nl d then (0 : Int) else (1 : Int))), V.val (Value.int IntKind.i32 (0 : Int)), V.val (Value.int IntKind.u32 (0 : Int)), V.mref (1 : Nat), I (Dv.fuse d)]), some (Obj.nest (Nest.mp (Dv.nl d) (mE (Dv.fs d))) [])]) :=
  vcP hmix [.reg 1 [(4, [], some false)]] [] [
      decide (Dv.fuse d > (0 : Int)) = false] (by kernel_rfl)
    (by
      have d0 := tq0
      try simp only [Int.ofNat_eq_natCast, List.length_map, Bool.not_eq_true', Bool.not_eq_false', decide_eq_true_eq, decide_eq_false_iff_not] at d0
      simp only [allP]
      and_intros <;> first
        | omega)

theorem cDone_ (d : Dv) (hf : d.fuse ≤ 9223372036854775807) : Contract Try.prog 38 [.ptr 0 0 0 0] [d.box 1, d.map] (I 0) [some (d.went.box 1), some d.map] := by
  rcases tf (decide (Dv.fuse d > (0 : Int))) with tq0 | tq0
  · exact Contract.cast (by
      first
        | rfl) (by
      first
        | (simp only [Dv.went, Dv.box, Dv.cells, Dv.map, tq0, cond_true, cond_false]; rfl)) (cDone__0 d hf tq0)
  · exact Contract.cast (by
      first
        | rfl) (by
      first
        | (simp only [Dv.went, Dv.box, Dv.cells, Dv.map, tq0, cond_true, cond_false]; done)) (cDone__1 d hf tq0)

theorem cUsed_0 (d : Dv)  : Contract Try.prog 14 [.ptr 0 0 0 0] [d.box 1, d.map] (I (Dv.used d)) ([some (Obj.box [I (Dv.room d), I (Dv.used d), V.val (Value.int IntKind.u32 (bif Dv.nl d then (0 : Int) else (1 : Int))), V.val (Value.int IntKind.i32 (0 : Int)), V.val (Value.int IntKind.u32 (0 : Int)), V.mref (1 : Nat), I (Dv.fuse d)]), some (Obj.nest (Nest.mp (Dv.nl d) (mE (Dv.fs d))) [])]) :=
  vcP hmix [.reg 3 [(3, [.cellc .i64 d.used (.int .i64 d.used)], none)]] [] [
      CellC Try.prog (39 : Nat) IntKind.i64 (Dv.used d) (Dv.used d) [] (Value.int IntKind.i64 (Dv.used d))] (by kernel_rfl)
    (by
      simp only [allP]
      and_intros <;> first
        | exact loadC)

theorem cUsed (d : Dv)  : Contract Try.prog 14 [.ptr 0 0 0 0] [d.box 1, d.map] (I d.used) [some (d.box 1), some d.map] := by
  exact Contract.cast (by
    first
      | rfl) (by
    first
      | rfl) (cUsed_0 d  )

theorem cRoom_0 (d : Dv)  : Contract Try.prog 30 [.ptr 0 0 0 0] [d.box 1, d.map] (I (Dv.room d)) ([some (Obj.box [I (Dv.room d), I (Dv.used d), V.val (Value.int IntKind.u32 (bif Dv.nl d then (0 : Int) else (1 : Int))), V.val (Value.int IntKind.i32 (0 : Int)), V.val (Value.int IntKind.u32 (0 : Int)), V.mref (1 : Nat), I (Dv.fuse d)]), some (Obj.nest (Nest.mp (Dv.nl d) (mE (Dv.fs d))) [])]) :=
  vcP hmix [] [] [
      ] (by kernel_rfl)
    trivial

theorem cRoom (d : Dv)  : Contract Try.prog 30 [.ptr 0 0 0 0] [d.box 1, d.map] (I d.room) [some (d.box 1), some d.map] := by
  exact Contract.cast (by
    first
      | rfl) (by
    first
      | rfl) (cRoom_0 d  )

theorem cFuse_0 (d : Dv) (n : Int)  : Contract Try.prog 11 [.ptr 0 0 0 0, I n] [d.box 1, d.map] (V.tup []) ([some (Obj.box [I (Dv.room d), I (Dv.used d), V.val (Value.int IntKind.u32 (bif Dv.nl d then (0 : Int) else (1 : Int))), V.val (Value.int IntKind.i32 (0 : Int)), V.val (Value.int IntKind.u32 (0 : Int)), V.mref (1 : Nat), I (if (-1 : Int) > n then (-1 : Int) else n)]), some (Obj.nest (Nest.mp (Dv.nl d) (mE (Dv.fs d))) [])]) :=
  vcP hmix [] [] [
      ] (by kernel_rfl)
    trivial

theorem cFuse (d : Dv) (n : Int)  : Contract Try.prog 11 [.ptr 0 0 0 0, I n] [d.box 1, d.map] (.tup []) [some ({d with fuse := if (-1 : Int) > n then -1 else n}.box 1), some d.map] := by
  exact Contract.cast (by
    first
      | rfl) (by
    first
      | rfl) (cFuse_0 d n  )

theorem cNew__0 (room : Int)  : Contract Try.prog 9 [I room] [] (V.ptr (0 : Nat) (0 : Nat) (0 : Nat) (0 : Nat)) ([some (Obj.box [I (if room > (0 : Int) then room else (0 : Int)), I (0 : Int), V.val (Value.int IntKind.u32 (0 : Int)), V.val (Value.int IntKind.i32 (0 : Int)), V.val (Value.int IntKind.u32 (0 : Int)), V.val (Value.map none), I (-1 : Int)])]) :=
  vcP hmix [] [204000] [
      ] (by kernel_rfl)
    trivial

theorem cNew_ (room : Int)  : Contract Try.prog 9 [I room] [] (.ptr 0 0 0 0) [some (.box [I (if (0 : Int) < room then room else 0), I 0, .val (.int .u32 0), .val (.int .i32 0), .val (.int .u32 0), .val (.map none), I (-1)])] := by
  exact Contract.cast (by
    first
      | rfl) (by
    first
      | rfl) (cNew__0 room  )

def newD (room : Int) : Dv := ⟨if (0 : Int) < room then room else 0, 0, true, [], -1⟩
theorem cNew (room : Int) : Contract Try.prog 9 [I room] [] (.ptr 0 0 0 0) [some ((newD room).box 1), some (newD room).map] := by
  refine Contract.nilMap (cNew_ room) (fun h0 h => by simpa only [V.rep, h0] using h) (by simp [idsL, V.ids, I]) (fun {w G τ τ' xs} h0 h1 h => ?_)
  simp only [newD, Dv.cells, I, cond_true]
  match xs, h with
  | [a, b, c, e, f, g, q], h => simpa only [repL, V.rep, V.repI, h1, I] using h
end Go.Proofs.Ythmhkgddohgoeaa

/- a device: Append. -/
namespace Go.Proofs.Ythmhkgddohgoeaa
open E
set_option maxRecDepth 100000
set_option linter.unusedVariables false
set_option linter.unusedSimpArgs false

theorem cMay0 (d : Dv) (hf : d.fuse ≠ 0) : Contract Try.prog 34 [.ptr 0 0 0 0] [d.box 1, d.map] (I 0) [some (d.box 1), some d.map] := by
  have := cMay d
  rwa [show (bif decide (d.fuse = 0) then (5 : Int) else 0) = 0 by simp [hf]] at this
theorem cMay5 (d : Dv) (hf : d.fuse = 0) : Contract Try.prog 34 [.ptr 0 0 0 0] [d.box 1, d.map] (I 5) [some (d.box 1), some d.map] := by
  have := cMay d
  rwa [show (bif decide (d.fuse = 0) then (5 : Int) else 0) = 5 by simp [hf]] at this

/-- Where a file stands. -/
def fat (fs : Fs) (s : ByteArray) : Option Nat := fs.findIdx? fun p => s == p.1
theorem fidx_mE (fs : Fs) (s : ByteArray) : fidx (mE fs) s = fat fs s := by
  unfold fidx fat mE
  induction fs with
  | nil => rfl
  | cons p fs ih => simp only [List.map_cons, List.findIdx?_cons, ih]
theorem mE_at {fs : Fs} {i : Nat} {s : ByteArray} {f : Fi} (h : fs[i]? = some (s, f)) : (mE fs)[i]? = some (s, Inn.box 1 (f.bs.map bR) [I f.sure]) := by
  unfold mE; rw [List.getElem?_map, h]; rfl
theorem mE_set {fs : Fs} {i : Nat} {s : ByteArray} {c : Inn} (bs : List UInt8) (n : Int) : (((mE fs).set i (s, c)).set i (s, Inn.box 1 (bs.map bR) [I n])) = mE (fs.set i (s, ⟨bs, n⟩)) := by
  rw [List.set_set]; unfold mE; rw [List.map_set]; rfl
theorem mE_get {fs : Fs} {i : Nat} {p : ByteArray × Fi} {s : ByteArray} {c : Inn} (h : fs[i]? = some p) : ((mE fs).set i (s, c))[i]? = some (s, c) := by
  have := (List.getElem?_eq_some_iff.1 h).1
  rw [List.getElem?_set, if_pos rfl, if_pos (by unfold mE; simpa using this)]
theorem mE_ids (fs : Fs) : ∀ p ∈ mE fs, p.2.ids = [] := by
  intro p hp
  obtain ⟨q, _, rfl⟩ := List.mem_map.1 hp
  rfl
theorem mE_push (fs : Fs) (s : ByteArray) (bs : List UInt8) (n : Int) (c : Inn) : (mE fs ++ [(s, c)]).set fs.length (s, Inn.box 1 (bs.map bR) [I n]) = mE (fs ++ [(s, ⟨bs, n⟩)]) := by
  unfold mE
  rw [List.map_append, List.set_append_right _ _ (by simp)]
  simp [Fi.inn]
theorem mE_last (fs : Fs) (s : ByteArray) (c : Inn) : (mE fs ++ [(s, c)])[fs.length]? = some (s, c) := by
  unfold mE
  rw [List.getElem?_append_right (by simp)]
  simp
theorem mE_flat (fs : Fs) : innFlat ((mE fs).map (·.2)) := by
  intro c hc
  obtain ⟨p, hp, rfl⟩ := List.mem_map.1 hc
  obtain ⟨q, _, rfl⟩ := List.mem_map.1 hp
  exact ⟨flatB _, rfl⟩
theorem mE_erase (fs : Fs) (i : Nat) : (mE fs).eraseIdx i = mE (fs.eraseIdx i) := by
  unfold mE; rw [map_erase]
theorem cAppA_0 (d : Dv) (s : ByteArray) (b : List UInt8) (i : Nat) (f : Fi) (hf : d.fuse ≠ 0) (hu : d.fuse ≤ 9223372036854775807) (hs : (ByteArray.toList s == []) = false) (hb : (b.length : Int) ≤ d.room - d.used) (hr : d.room ≤ 9223372036854775807) (h0 : 0 ≤ d.used) (hn : d.nl = true → d.fs = []) (hi : fat d.fs s = some i) (ha : d.fs[i]? = some (s, f)) (hl : f.bs.length + b.length ≤ 1000000000) : Contract Try.prog 10 [.ptr 0 0 0 0, .val (.string s), .sl 1 (b.map bR)] [d.box 1, d.map] (I (0 : Int)) ([some (Obj.box [I (Dv.room d), I (Dv.used d + Int.ofNat (List.length b)), V.val (Value.int IntKind.u32 (1 : Int)), V.val (Value.int IntKind.i32 (0 : Int)), V.val (Value.int IntKind.u32 (0 : Int)), V.mref (2 : Nat), I (bif decide (Dv.fuse d > (0 : Int)) then Dv.fuse d + (-1 : Int) else Dv.fuse d)]), none, some (Obj.nest (Nest.mp false (mE (List.set (Dv.fs d) i (s, { bs := Fi.bs f ++ b, sure := Fi.sure f })))) [])]) :=
  vcP hmix [.reg 1 [(1, [.call [0, 1] [] (I 0) [some (d.box 1), some d.map]], none)], .reg 4 [(1, [], some false)], .reg 6 [(5, [.cst 0 0 (I d.room)], none), (7, [.call [0, 1] [] (I d.used) [some (d.box 1), some d.map]], none), (8, [.be (I (d.room - d.used))], none), (9, [], some false)], .reg 8 [(5, [.call [0, 1] [] (.val (.tuple #[])) [some ({d with nl := false}.box 2), none, some {d with nl := false}.map]], none)], .reg 9 [(5, [.idx i, .inn (.box 1 (f.bs.map bR) [I f.sure])], none)], .reg 13 [(6, [.beO ((f.bs ++ b).map bR)], none), (9, [.shutM 1606001 i s 1806000 (mE (d.fs.set i (s, ⟨f.bs ++ b, f.sure⟩)))], none)], .reg 14 [(5, [.cellc .i64 (d.used + b.length) (.int .i64 (d.used + b.length))], none)], .reg 15 [(1, [.call [0, 1606001] [] (I 0) [some ((⟨d.room, d.used + b.length, false, d.fs.set i (s, ⟨f.bs ++ b, f.sure⟩), d.fuse⟩ : Dv).went.box 1), some (⟨d.room, d.used + b.length, false, d.fs.set i (s, ⟨f.bs ++ b, f.sure⟩), d.fuse⟩ : Dv).went.map]], none)]] [1606001] [
      Contract Try.prog (34 : Nat) [V.ptr (0 : Nat) (0 : Nat) (0 : Nat) (0 : Nat)] [Obj.box [I (Dv.room d), I (Dv.used d), V.val (Value.int IntKind.u32 (bif Dv.nl d then (0 : Int) else (1 : Int))), V.val (Value.int IntKind.i32 (0 : Int)), V.val (Value.int IntKind.u32 (0 : Int)), V.mref (1 : Nat), I (Dv.fuse d)], Obj.nest (Nest.mp (Dv.nl d) (mE (Dv.fs d))) []] (I (0 : Int)) [some (Obj.box [I (Dv.room d), I (Dv.used d), V.val (Value.int IntKind.u32 (bif Dv.nl d then (0 : Int) else (1 : Int))), V.val (Value.int IntKind.i32 (0 : Int)), V.val (Value.int IntKind.u32 (0 : Int)), V.mref (1 : Nat), I (Dv.fuse d)]), some (Obj.nest (Nest.mp (Dv.nl d) (mE (Dv.fs d))) [])],
      (ByteArray.toList s == []) = false,
      cellIs (some (Obj.box [I (Dv.room d), I (Dv.used d), V.val (Value.int IntKind.u32 (bif Dv.nl d then (0 : Int) else (1 : Int))), V.val (Value.int IntKind.i32 (0 : Int)), V.val (Value.int IntKind.u32 (0 : Int)), V.mref (1 : Nat), I (Dv.fuse d)])) (0 : Nat) (I (Dv.room d)),
      Contract Try.prog (14 : Nat) [V.ptr (0 : Nat) (0 : Nat) (0 : Nat) (0 : Nat)] [Obj.box [I (Dv.room d), I (Dv.used d), V.val (Value.int IntKind.u32 (bif Dv.nl d then (0 : Int) else (1 : Int))), V.val (Value.int IntKind.i32 (0 : Int)), V.val (Value.int IntKind.u32 (0 : Int)), V.mref (1 : Nat), I (Dv.fuse d)], Obj.nest (Nest.mp (Dv.nl d) (mE (Dv.fs d))) []] (I (Dv.used d)) [some (Obj.box [I (Dv.room d), I (Dv.used d), V.val (Value.int IntKind.u32 (bif Dv.nl d then (0 : Int) else (1 : Int))), V.val (Value.int IntKind.i32 (0 : Int)), V.val (Value.int IntKind.u32 (0 : Int)), V.mref (1 : Nat), I (Dv.fuse d)]), some (Obj.nest (Nest.mp (Dv.nl d) (mE (Dv.fs d))) [])],
      cellIs (some (Obj.box [I (Dv.room d), I (Dv.used d), V.val (Value.int IntKind.u32 (bif Dv.nl d then (0 : Int) else (1 : Int))), V.val (Value.int IntKind.i32 (0 : Int)), V.val (Value.int IntKind.u32 (0 : Int)), V.mref (1 : Nat), I (Dv.fuse d)])) (0 : Nat) (I (Dv.room d)),
      IntKind.wrap IntKind.i64 (Dv.room d + -Dv.used d) = Dv.room d + -Dv.used d,
      decide (Int.ofNat (List.length (List.map bR b)) > Dv.room d + -Dv.used d) = false,
      Contract Try.prog (35 : Nat) [V.ptr (0 : Nat) (0 : Nat) (0 : Nat) (2 : Nat), V.clo (Fn.func (36 : Nat)) [V.ptr (0 : Nat) (0 : Nat) (0 : Nat) (0 : Nat)] []] [Obj.box [I (Dv.room d), I (Dv.used d), V.val (Value.int IntKind.u32 (bif Dv.nl d then (0 : Int) else (1 : Int))), V.val (Value.int IntKind.i32 (0 : Int)), V.val (Value.int IntKind.u32 (0 : Int)), V.mref (1 : Nat), I (Dv.fuse d)], Obj.nest (Nest.mp (Dv.nl d) (mE (Dv.fs d))) []] (V.val (Value.tuple { toList := [] })) [some (Obj.box [I (Dv.room d), I (Dv.used d), V.val (Value.int IntKind.u32 (1 : Int)), V.val (Value.int IntKind.i32 (0 : Int)), V.val (Value.int IntKind.u32 (0 : Int)), V.mref (2 : Nat), I (Dv.fuse d)]), none, some (Obj.nest (Nest.mp false (mE (Dv.fs d))) [])],
      fidx (mE (Dv.fs d)) s = some i,
      (mE (Dv.fs d))[i]? = some (s, Inn.box (1 : Nat) (List.map bR (Fi.bs f)) [I (Fi.sure f)]),
      (List.length (List.map bR (Fi.bs f)) + List.length (List.map bR b)) * (1 : Nat) ≤ (140737488355328 : Nat),
      List.map bR (Fi.bs f) ++ List.map bR b = List.map bR (Fi.bs f ++ b),
      (List.set (mE (Dv.fs d)) i (s, Inn.hole (V.ptr (1806000 : Nat) (0 : Nat) (0 : Nat) (0 : Nat))))[i]? = some (s, Inn.hole (V.ptr (1806000 : Nat) (0 : Nat) (0 : Nat) (0 : Nat))),
      List.set (List.set (mE (Dv.fs d)) i (s, Inn.hole (V.ptr (1806000 : Nat) (0 : Nat) (0 : Nat) (0 : Nat)))) i (s, Inn.box (1 : Nat) (List.map bR (Fi.bs f ++ b)) [I (Fi.sure f)]) = mE (List.set (Dv.fs d) i (s, { bs := Fi.bs f ++ b, sure := Fi.sure f })),
      ∀ (p0 : ByteArray × Inn), List.Mem p0 (mE (List.set (Dv.fs d) i (s, { bs := Fi.bs f ++ b, sure := Fi.sure f }))) → Inn.ids (Prod.snd p0) = [],
      CellC Try.prog (37 : Nat) IntKind.i64 (Dv.used d) (Dv.used d + Int.ofNat (List.length b)) [Value.int IntKind.i64 (Int.ofNat (List.length (List.map bR b)))] (Value.int IntKind.i64 (Dv.used d + Int.ofNat (List.length b))),
      Contract Try.prog (38 : Nat) [V.ptr (0 : Nat) (0 : Nat) (0 : Nat) (0 : Nat)] [Obj.box [I (Dv.room d), I (Dv.used d + Int.ofNat (List.length b)), V.val (Value.int IntKind.u32 (1 : Int)), V.val (Value.int IntKind.i32 (0 : Int)), V.val (Value.int IntKind.u32 (0 : Int)), V.mref (1 : Nat), I (Dv.fuse d)], Obj.nest (Nest.mp false (mE (List.set (Dv.fs d) i (s, { bs := Fi.bs f ++ b, sure := Fi.sure f })))) []] (I (0 : Int)) [some (Obj.box [I (Dv.room d), I (Dv.used d + Int.ofNat (List.length b)), V.val (Value.int IntKind.u32 (1 : Int)), V.val (Value.int IntKind.i32 (0 : Int)), V.val (Value.int IntKind.u32 (0 : Int)), V.mref (1 : Nat), I (bif decide (Dv.fuse d > (0 : Int)) then Dv.fuse d + (-1 : Int) else Dv.fuse d)]), some (Obj.nest (Nest.mp false (mE (List.set (Dv.fs d) i (s, { bs := Fi.bs f ++ b, sure := Fi.sure f })))) [])]] (by kernel_rfl)
    (by
      simp only [allP]
      and_intros <;> first
        | omega
        | exact cMay0 d hf
        | exact cUsed d
        | exact cOnce d hn
        | exact cDone_ (⟨d.room, d.used + b.length, false, d.fs.set i (s, ⟨f.bs ++ b, f.sure⟩), d.fuse⟩ : Dv) hu
        | exact mE_ids _
        | exact mE_at ha
        | (rw [fidx_mE]; exact hi)
        | exact mE_set _ _
        | exact mE_get ha
        | rfl
        | exact addC (by rw [i64_small (by simp; omega)]; simp)
        | exact i64_small (by omega)
        | exact (List.map_append ..).symm
        | (simp; omega))

theorem cAppA (d : Dv) (s : ByteArray) (b : List UInt8) (i : Nat) (f : Fi) (hf : d.fuse ≠ 0) (hu : d.fuse ≤ 9223372036854775807) (hs : (ByteArray.toList s == []) = false) (hb : (b.length : Int) ≤ d.room - d.used) (hr : d.room ≤ 9223372036854775807) (h0 : 0 ≤ d.used) (hn : d.nl = true → d.fs = []) (hi : fat d.fs s = some i) (ha : d.fs[i]? = some (s, f)) (hl : f.bs.length + b.length ≤ 1000000000) : Contract Try.prog 10 [.ptr 0 0 0 0, .val (.string s), .sl 1 (b.map bR)] [d.box 1, d.map] (I 0) [some ((⟨d.room, d.used + b.length, false, d.fs.set i (s, ⟨f.bs ++ b, f.sure⟩), d.fuse⟩ : Dv).went.box 2), none, some (⟨d.room, d.used + b.length, false, d.fs.set i (s, ⟨f.bs ++ b, f.sure⟩), d.fuse⟩ : Dv).went.map] := by
  exact Contract.cast (by
    first
      | rfl) (by
    first
      | rfl) (cAppA_0 d s b i f hf hu hs hb hr h0 hn hi ha hl )

theorem cAppB_0 (d : Dv) (s : ByteArray) (b : List UInt8) (hf : d.fuse ≠ 0) (hu : d.fuse ≤ 9223372036854775807) (hs : (ByteArray.toList s == []) = false) (hb : (b.length : Int) ≤ d.room - d.used) (hr : d.room ≤ 9223372036854775807) (h0 : 0 ≤ d.used) (hn : d.nl = true → d.fs = []) (hi : fat d.fs s = none) (hl : b.length ≤ 1000000000) : Contract Try.prog 10 [.ptr 0 0 0 0, .val (.string s), .sl 1 (b.map bR)] [d.box 1, d.map] (I (0 : Int)) ([some (Obj.box [I (Dv.room d), I (Dv.used d + Int.ofNat (List.length b)), V.val (Value.int IntKind.u32 (1 : Int)), V.val (Value.int IntKind.i32 (0 : Int)), V.val (Value.int IntKind.u32 (0 : Int)), V.mref (2 : Nat), I (bif decide (Dv.fuse d > (0 : Int)) then Dv.fuse d + (-1 : Int) else Dv.fuse d)]), none, some (Obj.nest (Nest.mp false (mE (Dv.fs d ++ [(s, { bs := b, sure := (0 : Int) })]))) [])]) :=
  vcP hmix [.reg 1 [(1, [.call [0, 1] [] (I 0) [some (d.box 1), some d.map]], none)], .reg 4 [(1, [], some false)], .reg 6 [(5, [.cst 0 0 (I d.room)], none), (7, [.call [0, 1] [] (I d.used) [some (d.box 1), some d.map]], none), (8, [.be (I (d.room - d.used))], none), (9, [], some false)], .reg 8 [(5, [.call [0, 1] [] (.val (.tuple #[])) [some ({d with nl := false}.box 2), none, some {d with nl := false}.map]], none)], .reg 9 [(5, [.row []], none)], .reg 13 [(6, [.beO (b.map bR)], none), (9, [.shutM 1606001 d.fs.length s 2202000 (mE (d.fs ++ [(s, ⟨b, 0⟩)]))], none)], .reg 14 [(5, [.cellc .i64 (d.used + b.length) (.int .i64 (d.used + b.length))], none)], .reg 15 [(1, [.call [0, 1606001] [] (I 0) [some ((⟨d.room, d.used + b.length, false, d.fs ++ [(s, ⟨b, 0⟩)], d.fuse⟩ : Dv).went.box 1), some (⟨d.room, d.used + b.length, false, d.fs ++ [(s, ⟨b, 0⟩)], d.fuse⟩ : Dv).went.map]], none)]] [1606001] [
      Contract Try.prog (34 : Nat) [V.ptr (0 : Nat) (0 : Nat) (0 : Nat) (0 : Nat)] [Obj.box [I (Dv.room d), I (Dv.used d), V.val (Value.int IntKind.u32 (bif Dv.nl d then (0 : Int) else (1 : Int))), V.val (Value.int IntKind.i32 (0 : Int)), V.val (Value.int IntKind.u32 (0 : Int)), V.mref (1 : Nat), I (Dv.fuse d)], Obj.nest (Nest.mp (Dv.nl d) (mE (Dv.fs d))) []] (I (0 : Int)) [some (Obj.box [I (Dv.room d), I (Dv.used d), V.val (Value.int IntKind.u32 (bif Dv.nl d then (0 : Int) else (1 : Int))), V.val (Value.int IntKind.i32 (0 : Int)), V.val (Value.int IntKind.u32 (0 : Int)), V.mref (1 : Nat), I (Dv.fuse d)]), some (Obj.nest (Nest.mp (Dv.nl d) (mE (Dv.fs d))) [])],
      (ByteArray.toList s == []) = false,
      cellIs (some (Obj.box [I (Dv.room d), I (Dv.used d), V.val (Value.int IntKind.u32 (bif Dv.nl d then (0 : Int) else (1 : Int))), V.val (Value.int IntKind.i32 (0 : Int)), V.val (Value.int IntKind.u32 (0 : Int)), V.mref (1 : Nat), I (Dv.fuse d)])) (0 : Nat) (I (Dv.room d)),
      Contract Try.prog (14 : Nat) [V.ptr (0 : Nat) (0 : Nat) (0 : Nat) (0 : Nat)] [Obj.box [I (Dv.room d), I (Dv.used d), V.val (Value.int IntKind.u32 (bif Dv.nl d then (0 : Int) else (1 : Int))), V.val (Value.int IntKind.i32 (0 : Int)), V.val (Value.int IntKind.u32 (0 : Int)), V.mref (1 : Nat), I (Dv.fuse d)], Obj.nest (Nest.mp (Dv.nl d) (mE (Dv.fs d))) []] (I (Dv.used d)) [some (Obj.box [I (Dv.room d), I (Dv.used d), V.val (Value.int IntKind.u32 (bif Dv.nl d then (0 : Int) else (1 : Int))), V.val (Value.int IntKind.i32 (0 : Int)), V.val (Value.int IntKind.u32 (0 : Int)), V.mref (1 : Nat), I (Dv.fuse d)]), some (Obj.nest (Nest.mp (Dv.nl d) (mE (Dv.fs d))) [])],
      cellIs (some (Obj.box [I (Dv.room d), I (Dv.used d), V.val (Value.int IntKind.u32 (bif Dv.nl d then (0 : Int) else (1 : Int))), V.val (Value.int IntKind.i32 (0 : Int)), V.val (Value.int IntKind.u32 (0 : Int)), V.mref (1 : Nat), I (Dv.fuse d)])) (0 : Nat) (I (Dv.room d)),
      IntKind.wrap IntKind.i64 (Dv.room d + -Dv.used d) = Dv.room d + -Dv.used d,
      decide (Int.ofNat (List.length (List.map bR b)) > Dv.room d + -Dv.used d) = false,
      Contract Try.prog (35 : Nat) [V.ptr (0 : Nat) (0 : Nat) (0 : Nat) (2 : Nat), V.clo (Fn.func (36 : Nat)) [V.ptr (0 : Nat) (0 : Nat) (0 : Nat) (0 : Nat)] []] [Obj.box [I (Dv.room d), I (Dv.used d), V.val (Value.int IntKind.u32 (bif Dv.nl d then (0 : Int) else (1 : Int))), V.val (Value.int IntKind.i32 (0 : Int)), V.val (Value.int IntKind.u32 (0 : Int)), V.mref (1 : Nat), I (Dv.fuse d)], Obj.nest (Nest.mp (Dv.nl d) (mE (Dv.fs d))) []] (V.val (Value.tuple { toList := [] })) [some (Obj.box [I (Dv.room d), I (Dv.used d), V.val (Value.int IntKind.u32 (1 : Int)), V.val (Value.int IntKind.i32 (0 : Int)), V.val (Value.int IntKind.u32 (0 : Int)), V.mref (2 : Nat), I (Dv.fuse d)]), none, some (Obj.nest (Nest.mp false (mE (Dv.fs d))) [])],
      fidx (mE (Dv.fs d)) s = none,
      false = false,
      fidx (mE (Dv.fs d)) s = none,
      List.length (List.map bR b) * (1 : Nat) ≤ (140737488355328 : Nat),
      List.map bR b = List.map bR b,
      (mE (Dv.fs d) ++ [(s, Inn.hole (V.ptr (2202000 : Nat) (0 : Nat) (0 : Nat) (0 : Nat)))])[List.length (Dv.fs d)]? = some (s, Inn.hole (V.ptr (2202000 : Nat) (0 : Nat) (0 : Nat) (0 : Nat))),
      List.set (mE (Dv.fs d) ++ [(s, Inn.hole (V.ptr (2202000 : Nat) (0 : Nat) (0 : Nat) (0 : Nat)))]) (List.length (Dv.fs d)) (s, Inn.box (1 : Nat) (List.map bR b) [I (0 : Int)]) = mE (Dv.fs d ++ [(s, { bs := b, sure := (0 : Int) })]),
      ∀ (p0 : ByteArray × Inn), List.Mem p0 (mE (Dv.fs d ++ [(s, { bs := b, sure := (0 : Int) })])) → Inn.ids (Prod.snd p0) = [],
      CellC Try.prog (37 : Nat) IntKind.i64 (Dv.used d) (Dv.used d + Int.ofNat (List.length b)) [Value.int IntKind.i64 (Int.ofNat (List.length (List.map bR b)))] (Value.int IntKind.i64 (Dv.used d + Int.ofNat (List.length b))),
      Contract Try.prog (38 : Nat) [V.ptr (0 : Nat) (0 : Nat) (0 : Nat) (0 : Nat)] [Obj.box [I (Dv.room d), I (Dv.used d + Int.ofNat (List.length b)), V.val (Value.int IntKind.u32 (1 : Int)), V.val (Value.int IntKind.i32 (0 : Int)), V.val (Value.int IntKind.u32 (0 : Int)), V.mref (1 : Nat), I (Dv.fuse d)], Obj.nest (Nest.mp false (mE (Dv.fs d ++ [(s, { bs := b, sure := (0 : Int) })]))) []] (I (0 : Int)) [some (Obj.box [I (Dv.room d), I (Dv.used d + Int.ofNat (List.length b)), V.val (Value.int IntKind.u32 (1 : Int)), V.val (Value.int IntKind.i32 (0 : Int)), V.val (Value.int IntKind.u32 (0 : Int)), V.mref (1 : Nat), I (bif decide (Dv.fuse d > (0 : Int)) then Dv.fuse d + (-1 : Int) else Dv.fuse d)]), some (Obj.nest (Nest.mp false (mE (Dv.fs d ++ [(s, { bs := b, sure := (0 : Int) })]))) [])]] (by kernel_rfl)
    (by
      simp only [allP]
      and_intros <;> first
        | omega
        | exact cMay0 d hf
        | exact cUsed d
        | exact cOnce d hn
        | exact cDone_ (⟨d.room, d.used + b.length, false, d.fs ++ [(s, ⟨b, 0⟩)], d.fuse⟩ : Dv) hu
        | exact mE_ids _
        | (rw [fidx_mE]; exact hi)
        | exact mE_push _ _ _ _ _
        | exact mE_last _ _ _
        | rfl
        | exact addC (by rw [i64_small (by simp; omega)]; simp)
        | exact i64_small (by omega)
        | (simp; done)
        | (simp; omega))

theorem cAppB (d : Dv) (s : ByteArray) (b : List UInt8) (hf : d.fuse ≠ 0) (hu : d.fuse ≤ 9223372036854775807) (hs : (ByteArray.toList s == []) = false) (hb : (b.length : Int) ≤ d.room - d.used) (hr : d.room ≤ 9223372036854775807) (h0 : 0 ≤ d.used) (hn : d.nl = true → d.fs = []) (hi : fat d.fs s = none) (hl : b.length ≤ 1000000000) : Contract Try.prog 10 [.ptr 0 0 0 0, .val (.string s), .sl 1 (b.map bR)] [d.box 1, d.map] (I 0) [some ((⟨d.room, d.used + b.length, false, d.fs ++ [(s, ⟨b, 0⟩)], d.fuse⟩ : Dv).went.box 2), none, some (⟨d.room, d.used + b.length, false, d.fs ++ [(s, ⟨b, 0⟩)], d.fuse⟩ : Dv).went.map] := by
  exact Contract.cast (by
    first
      | rfl) (by
    first
      | rfl) (cAppB_0 d s b hf hu hs hb hr h0 hn hi hl )

end Go.Proofs.Ythmhkgddohgoeaa

/- slices.Sorted(maps.Keys(m)): the contracts of the kit, laid (by its own tools). -/
namespace Go.Proofs
open Go.Shelf
def Try.keys51_ren : Go.Shelf.Ren := ⟨fun | 7 => 51 | 10 => 58 | n => n, fun | 23 => 72 | 26 => 9 | 3 => 77 | 28 => 96 | 0 => 0 | 27 => 95 | 33 => 103 | 4 => 4 | n => n, fun | n => n⟩
theorem Try.keys51 : Go.Proofs.SlLaysZ.n7 Try.prog Try.keys51_ren := {
  mixed := by kernel_rfl
  f7 := ⟨Try.f51.name, by decide, Try.func51.trans (congrArg some (by kernel_rfl))⟩
  f10 := ⟨Try.f58.name, by decide, Try.func58.trans (congrArg some (by kernel_rfl))⟩
  t0 := Try.underlying0
  a0 := Try.isAgg0
  z0 := Try.sizeOf0
  v0 := Try.zeroValue0
  t4 := Try.underlying4
  a4 := Try.isAgg4
  z4 := Try.sizeOf4
  v4 := Try.zeroValue4
  t23 := Try.underlying72
  a23 := Try.isAgg72
  z23 := Try.sizeOf72
  v23 := Try.zeroValue72
  t26 := Try.underlying9
  a26 := Try.isAgg9
  z26 := Try.sizeOf9
  v26 := Try.zeroValue9
  t27 := Try.underlying95
  a27 := Try.isAgg95
  z27 := Try.sizeOf95
  v27 := Try.zeroValue95
  t28 := Try.underlying96
  a28 := Try.isAgg96
  z28 := Try.sizeOf96
  v28 := Try.zeroValue96
  t33 := Try.underlying103
  a33 := Try.isAgg103
  z33 := Try.sizeOf103
  v33 := Try.zeroValue103 }
def Try.sorted50_ren : Go.Shelf.Ren := ⟨fun | 6 => 50 | 8 => 56 | 9 => 57 | 11 => 63 | 13 => 65 | 12 => 64 | 23 => 83 | 24 => 84 | 14 => 74 | 15 => 75 | 16 => 76 | 17 => 77 | 18 => 78 | 19 => 79 | 20 => 80 | 21 => 81 | 22 => 82 | 25 => 92 | 26 => 93 | 27 => 94 | 28 => 95 | 29 => 96 | 30 => 97 | 31 => 98 | n => n, fun | 26 => 9 | 28 => 96 | 24 => 82 | 0 => 0 | 3 => 3 | 37 => 110 | 48 => 63 | 50 => 129 | 4 => 4 | 40 => 120 | 39 => 119 | 45 => 125 | 5 => 5 | 9 => 9 | 51 => 132 | 55 => 136 | 57 => 138 | 58 => 139 | 33 => 103 | n => n, fun | n => n⟩
theorem Try.sorted50 : Go.Proofs.SlLaysZ.n6 Try.prog Try.sorted50_ren := {
  mixed := by kernel_rfl
  f6 := ⟨Try.f50.name, by decide, Try.func50.trans (congrArg some (by kernel_rfl))⟩
  f8 := ⟨Try.f56.name, by decide, Try.func56.trans (congrArg some (by kernel_rfl))⟩
  f11 := ⟨Try.f63.name, by decide, Try.func63.trans (congrArg some (by kernel_rfl))⟩
  t0 := Try.underlying0
  a0 := Try.isAgg0
  z0 := Try.sizeOf0
  v0 := Try.zeroValue0
  t24 := Try.underlying82
  a24 := Try.isAgg82
  z24 := Try.sizeOf82
  v24 := Try.zeroValue82
  t26 := Try.underlying9
  a26 := Try.isAgg9
  z26 := Try.sizeOf9
  v26 := Try.zeroValue9
  t28 := Try.underlying96
  a28 := Try.isAgg96
  z28 := Try.sizeOf96
  v28 := Try.zeroValue96
  i26 := by kernel_rfl }
def Try.sort57_ren : Go.Shelf.Ren := ⟨fun | 6 => 57 | 8 => 65 | 9 => 64 | 19 => 83 | 20 => 84 | 21 => 74 | 22 => 75 | 23 => 76 | 24 => 77 | 25 => 78 | 26 => 79 | 27 => 80 | 28 => 81 | 29 => 82 | 36 => 92 | 31 => 93 | 32 => 94 | 37 => 95 | 38 => 96 | 39 => 97 | 41 => 98 | n => n, fun | 27 => 82 | 29 => 9 | 3 => 3 | 32 => 110 | 26 => 82 | 0 => 0 | 44 => 63 | 46 => 129 | 4 => 4 | 36 => 120 | 35 => 119 | 41 => 125 | 5 => 5 | 9 => 9 | 53 => 132 | 57 => 136 | 63 => 138 | 64 => 139 | n => n, fun | n => n⟩
theorem Try.sort57 : Go.Proofs.SlLaysM.n6 Try.prog Try.sort57_ren := {
  mixed := by kernel_rfl
  f6 := ⟨Try.f57.name, by decide, Try.func57.trans (congrArg some (by kernel_rfl))⟩
  f8 := Try.func65.trans (congrArg some (by kernel_rfl))
  f9 := ⟨Try.f64.name, by decide, Try.func64.trans (congrArg some (by kernel_rfl))⟩
  f19 := Try.func83.trans (congrArg some (by kernel_rfl))
  f20 := Try.func84.trans (congrArg some (by kernel_rfl))
  f21 := ⟨Try.f74.name, by decide, Try.func74.trans (congrArg some (by kernel_rfl))⟩
  f22 := ⟨Try.f75.name, by decide, Try.func75.trans (congrArg some (by kernel_rfl))⟩
  f23 := ⟨Try.f76.name, by decide, Try.func76.trans (congrArg some (by kernel_rfl))⟩
  f24 := ⟨Try.f77.name, by decide, Try.func77.trans (congrArg some (by kernel_rfl))⟩
  f25 := ⟨Try.f78.name, by decide, Try.func78.trans (congrArg some (by kernel_rfl))⟩
  f26 := ⟨Try.f79.name, by decide, Try.func79.trans (congrArg some (by kernel_rfl))⟩
  f27 := ⟨Try.f80.name, by decide, Try.func80.trans (congrArg some (by kernel_rfl))⟩
  f28 := ⟨Try.f81.name, by decide, Try.func81.trans (congrArg some (by kernel_rfl))⟩
  f29 := ⟨Try.f82.name, by decide, Try.func82.trans (congrArg some (by kernel_rfl))⟩
  f31 := Try.func93.trans (congrArg some (by kernel_rfl))
  f32 := Try.func94.trans (congrArg some (by kernel_rfl))
  f36 := ⟨Try.f92.name, by decide, Try.func92.trans (congrArg some (by kernel_rfl))⟩
  f37 := ⟨Try.f95.name, by decide, Try.func95.trans (congrArg some (by kernel_rfl))⟩
  f38 := ⟨Try.f96.name, by decide, Try.func96.trans (congrArg some (by kernel_rfl))⟩
  f39 := ⟨Try.f97.name, by decide, Try.func97.trans (congrArg some (by kernel_rfl))⟩
  f41 := ⟨Try.f98.name, by decide, Try.func98.trans (congrArg some (by kernel_rfl))⟩
  t0 := Try.underlying0
  a0 := Try.isAgg0
  z0 := Try.sizeOf0
  v0 := Try.zeroValue0
  t3 := Try.underlying3
  a3 := Try.isAgg3
  z3 := Try.sizeOf3
  v3 := Try.zeroValue3
  t4 := Try.underlying4
  a4 := Try.isAgg4
  z4 := Try.sizeOf4
  v4 := Try.zeroValue4
  t5 := Try.underlying5
  a5 := Try.isAgg5
  z5 := Try.sizeOf5
  v5 := Try.zeroValue5
  t9 := Try.underlying9
  a9 := Try.isAgg9
  z9 := Try.sizeOf9
  v9 := Try.zeroValue9
  t26 := Try.underlying82
  a26 := Try.isAgg82
  z26 := Try.sizeOf82
  v26 := Try.zeroValue82
  t27 := Try.underlying82
  a27 := Try.isAgg82
  z27 := Try.sizeOf82
  v27 := Try.zeroValue82
  t29 := Try.underlying9
  a29 := Try.isAgg9
  z29 := Try.sizeOf9
  v29 := Try.zeroValue9
  t32 := Try.underlying110
  a32 := Try.isAgg110
  z32 := Try.sizeOf110
  v32 := Try.zeroValue110
  t35 := Try.underlying119
  a35 := Try.isAgg119
  z35 := Try.sizeOf119
  v35 := Try.zeroValue119
  t36 := Try.underlying120
  a36 := Try.isAgg120
  z36 := Try.sizeOf120
  v36 := Try.zeroValue120
  t41 := Try.underlying125
  a41 := Try.isAgg125
  z41 := Try.sizeOf125
  v41 := Try.zeroValue125
  t44 := Try.underlying63
  a44 := Try.isAgg63
  z44 := Try.sizeOf63
  v44 := Try.zeroValue63
  t46 := Try.underlying129
  a46 := Try.isAgg129
  z46 := Try.sizeOf129
  v46 := Try.zeroValue129
  t53 := Try.underlying132
  a53 := Try.isAgg132
  z53 := Try.sizeOf132
  v53 := Try.zeroValue132
  t57 := Try.underlying136
  a57 := Try.isAgg136
  z57 := Try.sizeOf136
  v57 := Try.zeroValue136
  t63 := Try.underlying138
  a63 := Try.isAgg138
  z63 := Try.sizeOf138
  v63 := Try.zeroValue138
  t64 := Try.underlying139
  a64 := Try.isAgg139
  z64 := Try.sizeOf139
  v64 := Try.zeroValue139 }
open Go.RowKit Go.Maps Go.Sort Go.Shelf in
theorem Try.sorts50 (m : Nat) : AnyZ.SortsIn Try.prog Try.sorted50_ren Fence.wide m :=
  ⟨fun blk off cap ss W hH hblk hsz => callsIn_wide.2 (AnyM.slices_Sort_string Try.sort57 blk off cap ss W hH hblk hsz),
   fun p cap W => callsIn_wide.2 (AnyM.slices_Sort_string_none Try.sort57 p cap W)⟩

open Go.RowKit Go.Maps Go.Sort Go.Shelf in
theorem Try.maps_Keys_51 (mb : Option Nat) (W : World) : CallsIn Fence.wide 5 Try.prog 51 #[.map mb] W fun e w' => e = .returned (.func (.func 58) #[] #[.pointer (some ⟨W.heap.size, 0, none⟩)]) ∧ w' = W.alloc (.cells #[.map mb] 72) :=
  AnyZ.keys_in Try.keys51 Fence.wide 5 trivial rfl mb W

open Go.RowKit Go.Maps Go.Sort Go.Shelf in
theorem Try.slices_Sorted_keys_50_51 {H : Type} (b nn : Nat) (D0 : DataW H) (R : Value → Option (DataW H × List MemPlace)) (w : World) (hown : w.ownsMap Try.prog 9 R b nn D0) (hmax : Maps.size D0 ≤ maxLen) (hbytes : Maps.size D0 * 16 ≤ 140737488355328) :
    CallsIn Fence.wide 5 Try.prog 50 #[.func (.func 58) #[] #[.pointer (some ⟨w.heap.size, 0, none⟩)]] (w.alloc (.cells #[.map (some b)] 72)) fun e w' => ∃ (v : Value) (ss : List (List UInt8)), e = .returned v ∧ ss.Perm (strKeys D0) ∧
      w'.ownsRow (w.alloc (.cells #[.map (some b)] 72)).heap.size 9 1 v ss.length ((ss.mergeSort (fun x y => decide (x ≤ y))).map encStr) ∧ (v = .slice none 0 0 ↔ ss = []) ∧ Below (w.alloc (.cells #[.map (some b)] 72)).heap.size (w.alloc (.cells #[.map (some b)] 72)) w' := by
  have hbl := hown.lt
  have hseq : SeqGives Fence.wide 2 Try.prog 58 #[.pointer (some ⟨w.heap.size, 0, none⟩)] encStr (fun ss => ss.Perm (strKeys D0)) (Maps.size D0) (w.alloc (.cells #[.map (some b)] 72)) :=
    AnyZ.keys_gives (ρ := Try.keys51_ren) { Try.keys51 with } Fence.wide _ trivial rfl (by omega) w.heap.size b nn D0 _ (by simp) (by simp) (by
      obtain ⟨es, clock, hb, Ft, hs, hD⟩ := hown
      exact ⟨es, clock, (Below.heap_alloc _ _ b hbl).trans hb, Ft, hs, hD⟩)
  exact AnyZ.sorted_in Try.sorted50 Fence.wide 5 trivial trivial trivial trivial rfl (by omega) (Try.sorts50 _) (enters_of Try.func57 (by kernel_rfl) rfl) 58 #[.pointer (some ⟨w.heap.size, 0, none⟩)] trivial (enters_of Try.func58 (by kernel_rfl) rfl) _ _ hmax hbytes _ hseq

open Go.RowKit Go.Maps Go.Sort Go.Shelf in
theorem Try.slices_Sorted_keys_nil_50_51 (w : World) :
    CallsIn Fence.wide 5 Try.prog 50 #[.func (.func 58) #[] #[.pointer (some ⟨w.heap.size, 0, none⟩)]] (w.alloc (.cells #[.map none] 72)) fun e w' => ∃ (v : Value) (ss : List (List UInt8)), e = .returned v ∧ ss = [] ∧
      w'.ownsRow (w.alloc (.cells #[.map none] 72)).heap.size 9 1 v ss.length ((ss.mergeSort (fun x y => decide (x ≤ y))).map encStr) ∧ (v = .slice none 0 0 ↔ ss = []) ∧ Below (w.alloc (.cells #[.map none] 72)).heap.size (w.alloc (.cells #[.map none] 72)) w' := by
  have hseq : SeqGives Fence.wide 2 Try.prog 58 #[.pointer (some ⟨w.heap.size, 0, none⟩)] encStr (fun ss : List (List UInt8) => ss = []) 0 (w.alloc (.cells #[.map none] 72)) :=
    AnyZ.keys_gives_nil (ρ := Try.keys51_ren) { Try.keys51 with } Fence.wide _ trivial rfl w.heap.size _ (by simp) (by simp)
  exact AnyZ.sorted_in Try.sorted50 Fence.wide 5 trivial trivial trivial trivial rfl (by omega) (Try.sorts50 _) (enters_of Try.func57 (by kernel_rfl) rfl) 58 #[.pointer (some ⟨w.heap.size, 0, none⟩)] trivial (enters_of Try.func58 (by kernel_rfl) rfl) _ 0 (Nat.zero_le _) (by omega) _ hseq
end Go.Proofs

/- the names of all files, in order. -/
namespace Go.Proofs.Ythmhkgddohgoeaa
open Go E
set_option maxRecDepth 100000
set_option linter.unusedVariables false
set_option linter.unusedSimpArgs false

/-- A text's row. -/
def sR (s : ByteArray) : List V := [.val (.string s)]
/-- In order. -/
def leN (x y : ByteArray) : Bool := decide (x.data.toList ≤ y.data.toList)
def sortF (fs : Fs) : Fs := fs.mergeSort fun p q => leN p.1 q.1
def namesF (fs : Fs) : List ByteArray := (sortF fs).map (·.1)

theorem namesF_eq (fs : Fs) : namesF fs = (fs.map (·.1)).mergeSort leN := List.map_mergeSort fun _ _ _ _ => rfl

theorem leL_trans (a b c : List UInt8) (h : decide (a ≤ b) = true) (k : decide (b ≤ c) = true) : decide (a ≤ c) = true := by
  simp only [decide_eq_true_eq] at *; exact List.le_trans h k
theorem leL_total (a b : List UInt8) : (decide (a ≤ b) || decide (b ≤ a)) = true := by
  simp only [Bool.or_eq_true, decide_eq_true_eq]; exact List.le_total a b

theorem sorted_names {fs : Fs} {ss : List (List UInt8)} (h : ss.Perm (fs.map fun p => p.1.data.toList)) : (ss.mergeSort fun x y => decide (x ≤ y)) = (namesF fs).map (fun s => s.data.toList) := by
  rw [namesF_eq, List.map_mergeSort (r := leN) (f := fun s : ByteArray => s.data.toList) (s := fun x y => decide (x ≤ y)) (fun _ _ _ _ => rfl)]
  refine List.Perm.eq_of_pairwise (le := fun x y => decide (x ≤ y) = true) (fun a b _ _ h k => ?_) (List.pairwise_mergeSort leL_trans leL_total _) (List.pairwise_mergeSort leL_trans leL_total _) ?_
  · simp only [decide_eq_true_eq] at h k; exact List.le_antisymm h k
  · rw [List.map_map]
    exact (List.mergeSort_perm ..).trans (h.trans (List.mergeSort_perm ..).symm)

/-- More of the world: what was there is as it was; some of what is new is read only. -/
theorem Mem.grown {base : Nat} {X G : Nat → Prop} {τ : Nat → Gh} {st : Nat → Option E.Obj} {w w' : World} (hm : Mem base X G τ st w) (hbase : base ≤ w.heap.size) (hb : RowKit.Below w.heap.size w w')
    (N : Nat → Prop) (hN : ∀ b, N b → w.heap.size ≤ b ∧ b < w'.heap.size) : Mem base X (fun b => G b ∨ N b) τ st w' ∧ Ext base X G w (fun b => G b ∨ N b) w' := by
  have hlt : ∀ i o' b, st i = some o' → (τ i).blk = some b → b < w.heap.size := fun i o' b h hb => by
    obtain ⟨_, _, h2⟩ := Obj.ok_blk (hm.ok i o' h) hb
    exact lt_of_get h2
  have hG : ∀ b, G b → (G b ∨ N b) ∧ w'.heap[b]? = w.heap[b]? := fun b h => ⟨.inl h, hb.block b (hm.gold b h)⟩
  have back : ∀ b, b < w.heap.size → G b ∨ N b → G b := fun b hlt h => h.elim id fun h => by have := (hN b h).1; omega
  refine ⟨⟨fun b h => ?_, fun i o h => ?_, hm.own, hm.inj, ?_⟩, ?_⟩
  · rcases h with h | h
    · have := hm.gold b h; have := hb.size; omega
    · exact (hN b h).2
  · exact Obj.ok_mono hG (fun b k => ⟨hb.block b (hlt i o b h k), back b (hlt i o b h k)⟩) rfl (fun _ _ => rfl) (hm.ok i o h)
  · exact Sub.step (fun i => i) hm.sub hG hb.size (fun _ _ h => h) (fun i o hi _ => ⟨hi, rfl, fun _ _ => rfl, fun b k => hb.block b (hlt i o b hi k)⟩) (fun i j _ _ _ _ _ _ h => h)
      (fun b hl hg _ _ => ⟨hb.block b hl, fun h => hg (back b hl h)⟩) (fun i o b hi hb => .inr ⟨i, o, hi, hb⟩)
  · exact ⟨hb.os, hb.tape, hb.output, hb.size, fun b h _ => hb.block b (by omega), hG, fun b h => h.elim .inl fun h => .inr (.inr (by have := (hN b h).1; omega))⟩

/-- bytes.Clone, where there are none. -/
theorem cClone0 : Contract Try.prog 41 [.own 0] [.arr 1 []] (.sl 1 []) [some (.arr 1 [])] := by
  refine ⟨⟨_, Try.func41, ne_of_beq_false (by kernel_rfl), by kernel_rfl⟩, fun w G X τ vals hm hX ha => ?_⟩
  have hv : vals = #[(τ 0).hdr] := by
    obtain ⟨l⟩ := vals
    match l, ha with
    | [p], ha =>
      simp only [repL, V.rep, and_true] at ha
      rw [ha]
  subst hv
  have hok := hm.ok 0 _ rfl
  simp only [Obj.ok, rowsOk, List.length_nil] at hok
  obtain ⟨k1, _, k2⟩ := hok
  rw [Gh.hdr, k1]
  have hcap : (τ 0).adr = none → (τ 0).cap = 0 := by
    intro h
    rcases k2 with ⟨_, _, e⟩ | ⟨b, _, _, _, _, e, _⟩
    · exact e
    · rw [h] at e; cases e
  have hst : objsAt' [some (.arr 1 [])] = objsAt [.arr 1 []] := by
    funext i
    match i with
    | 0 => rfl
    | i + 1 => rfl
  have heq : ∀ (w : World) (a : Option Addr) (c : Nat), (binOp .eql 27 (.slice a 0 c) (.slice none 0 0)).run Try.prog w = .ok (.bool a.isNone) w := fun w a c => Go.Lib.run_eql_slice_nil w 27 5 a 0 c 0 0 (by kernel_rfl)
  rw [hst]
  cases hadr : (τ 0).adr with
  | none =>
    rw [hcap hadr]
    go_enter Try.func41, Try.ntmps41
    go_wp2
    go_ret
    exact ⟨_, rfl, G, Ext.refl _ _ _ _, τ, rfl, by simp only [V.rep, V.repI]; exact ⟨none, 0, rfl, Nat.le_refl _, .inl trivial⟩, hm⟩
  | some a =>
    go_enter Try.func41, Try.ntmps41
    go_wp2
    go_ret
    obtain ⟨m1, e1⟩ := Mem.grown hm (Nat.le_refl _) ((RowKit.Below.refl _ w).alloc (Nat.le_refl _) _) (fun _ => False) (fun _ h => h.elim)
    exact ⟨_, rfl, _, e1, τ, rfl, by simp only [V.rep, V.repI]; exact ⟨_, 0, rfl, Nat.le_refl _, .inl trivial⟩, m1⟩

/-- How a file's variable reads: not at all. -/
def noR (_ : Value) : Option (DataW Unit × List MemPlace) := some (.nil, [])

theorem rg_string {m : Array MapEntry} (hk : ∀ e ∈ m.toList, ∃ s, e.key = .string s ∧ s.size ≤ maxLen) :
    (∀ x ∈ m.toList, ∃ y, WideElems.rd Try.prog 9 noR x = some y) ∧ ∀ (es : List ByteArray), m.toList.map (·.key) = es.map Value.string → (m.toList.map (WideElems.rg Try.prog 9 noR)).map (fun p => strOf p.1) = es.map fun s => s.data.toList := by
  have hu : Try.prog.underlying 9 = some .string := by kernel_rfl
  have one : ∀ e ∈ m.toList, ∀ s, e.key = .string s → WideElems.rd Try.prog 9 noR e = some (.string s.data.toList, .nil) := by
    intro e he s hs
    obtain ⟨s', h1, h2⟩ := hk e he
    rw [hs] at h1; cases h1
    unfold WideElems.rd
    rw [hs, WideMaps.keyOf_string_mk hu h2]
    rfl
  refine ⟨fun x hx => ?_, ?_⟩
  · obtain ⟨s, h1, _⟩ := hk x hx
    exact ⟨_, one x hx s h1⟩
  · revert one
    generalize m.toList = l
    intro one
    induction l with
    | nil =>
      intro es h
      cases es with
      | nil => rfl
      | cons s es => simp at h
    | cons e l ih =>
      intro es h
      cases es with
      | nil => simp at h
      | cons s es =>
        simp only [List.map_cons, List.cons.injEq] at h ⊢
        refine ⟨?_, ih (fun x hx => one x (by simp [hx])) es h.2⟩
        unfold WideElems.rg
        rw [one e (by simp) s h.1]
        rfl

theorem strKeys_perm : ∀ (l : List (Lit × DataW Unit)), (strKeys (.map (l.foldr DataW.insert []))).Perm (l.map fun p => strOf p.1) := by
  intro l
  unfold strKeys
  refine List.Perm.map _ ?_
  induction l with
  | nil => exact List.Perm.refl _
  | cons x l ih => exact (WideShapes.insert_perm x _).trans (ih.cons x)

theorem repRows_names {w : World} {G : Nat → Prop} {b : Nat} {cur : Array Value} {t : TypeId} {fz : Nat × Nat} (hb : w.heap[b]? = some (.cells cur t fz)) : ∀ (ns : List ByteArray) (o : Nat), (∀ i s, ns[i]? = some s → cur[o + i]? = some (.string s)) → repRows w G 1 b o (ns.map sR)
  | [], _, _ => by simp only [List.map_nil, repRows]
  | s :: ns, o, h => by
    simp only [List.map_cons, repRows, sR, List.length_singleton, repCells, V.repI, and_true, true_and]
    refine ⟨⟨.string s, by rw [cell_of_heap hb]; simpa using h 0 s (by simp), rfl, rfl⟩, repRows_names hb ns (o + 1) (fun i q hq => ?_)⟩
    have := h (i + 1) q (by simpa using hq)
    rwa [show o + 1 + i = o + (i + 1) by omega]

/-- The names of all files, in order. -/
theorem cNames (d : Dv) (hd : d.nl = true → d.fs = []) (hl : d.fs.length ≤ 1000000000) (hk : ∀ p ∈ d.fs, p.1.size ≤ maxLen) :
    Contract Try.prog 40 [.ptr 0 0 0 0] [d.box 1, d.map] (.sl 1 ((namesF d.fs).map sR)) [some (d.box 1), some d.map] := by
  refine ⟨⟨_, Try.func40, ne_of_beq_false (by kernel_rfl), by kernel_rfl⟩, fun w G X τ vals hm hX ha => ?_⟩
  obtain ⟨b, x4, t, fz, k1, k2, k3, k4, k5⟩ := dv_at hm
  have hv : vals = #[.pointer (some ⟨b, 0, none⟩)] := by
    obtain ⟨l⟩ := vals
    match l, ha with
    | [p], ha =>
      simp only [repL, V.rep, and_true] at ha
      obtain ⟨b', e1, rfl⟩ := ha
      rw [k1] at e1; cases e1
      rfl
  subst hv
  subst k3
  have hst : objsAt' [some (d.box 1), some d.map] = objsAt [d.box 1, d.map] := by
    funext i
    match i with
    | 0 => rfl
    | 1 => rfl
    | i + 2 => rfl
  rw [hst]
  have h5 : w.cell? ⟨b, 5, none⟩ = some (.map (τ 1).blk) := by rw [cell_of_heap k2]; rfl
  -- what the walk gives
  suffices main : Calls Try.prog 40 #[.pointer (some ⟨b, 0, none⟩)] w fun e w' => ∃ (v : Value) (ss : List (List UInt8)), e = .returned v ∧ ss.Perm (d.fs.map fun p => p.1.data.toList) ∧
      w'.ownsRow w.heap.size 9 1 v ss.length ((ss.mergeSort (fun x y => decide (x ≤ y))).map encStr) ∧ RowKit.Below w.heap.size w w' by
    refine main.mono ?_
    rintro e w' ⟨v, ss, rfl, h1, h2, h3⟩
    obtain ⟨q1, q2⟩ := h2
    have hlen : ss.length = (namesF d.fs).length := by rw [h1.length_eq, namesF_eq]; simp
    rcases q2 with ⟨rfl, q3⟩ | ⟨g, cap, cur, rfl, q3, q4, q5, q6, q7, q8⟩
    · obtain ⟨m1, e1⟩ := Mem.grown hm (Nat.le_refl _) h3 (fun _ => False) (fun _ h => h.elim)
      have hn : namesF d.fs = [] := List.eq_nil_of_length_eq_zero (by omega)
      refine ⟨_, _, τ, rfl, e1, fun _ _ => rfl, ?_, m1⟩
      rw [hn]
      simp only [List.map_nil, V.rep, V.repI]
      exact ⟨none, 0, rfl, Nat.le_refl _, .inl trivial⟩
    · obtain ⟨m1, e1⟩ := Mem.grown hm (Nat.le_refl _) h3 (fun k => k = g) (fun k h => by subst h; exact ⟨q3, lt_of_get q4⟩)
      refine ⟨_, _, τ, rfl, e1, fun _ _ => rfl, ?_, m1⟩
      simp only [V.rep, V.repI]
      refine ⟨_, cap, by rw [hlen]; simp, by rw [List.length_map, ← hlen]; exact q5, .inr ⟨g, 0, rfl, .inr rfl, repRows_names q4 _ 0 (fun i s hi => ?_)⟩⟩
      have hil : i < ss.length := by rw [hlen]; exact (List.getElem?_eq_some_iff.1 hi).1
      have := congrArg (fun l => l[i]?) q8
      simp only [Nat.mul_one, List.getElem?_take, if_pos hil] at this
      rw [Nat.zero_add, ← Array.getElem?_toList, this, sorted_names h1, List.map_map, List.getElem?_map, hi]
      rfl
  cases hn : (τ 1).blk with
  | none =>
    rw [hn] at h5
    have hok := hm.ok 1 _ rfl
    simp only [Dv.map, Obj.ok] at hok
    have hfs : d.fs = [] := by
      rcases hok with ⟨h, _⟩ | ⟨_, b', _, _, h, _⟩
      · exact hd h
      · rw [hn] at h; cases h
    refine (callsIn_wide (n := 6)).1 ?_
    have hfK : Fence.wide.fn 51 := trivial
    have hfS : Fence.wide.fn 50 := trivial
    refine callsIn_of_wp Try.func40 rfl trivial ?_ rfl
    simp only [Try.ntmps40, List.size_toArray, List.length_cons, List.length_nil, Nat.reduceAdd, Nat.reduceSub, Array.replicate_succ, Array.replicate_zero, List.push_toArray, List.append_toArray, List.nil_append, List.cons_append]
    gi_wp2_with (first
      | (gi_at_call 51; refine (Try.maps_Keys_51 _ _).mono ?_; rintro e w' ⟨rfl, rfl⟩)
      | (gi_at_call 50; refine (Try.slices_Sorted_keys_nil_50_51 w).mono ?_; rintro e w' ⟨v, ss, rfl, hS, hrow, hnil, hb⟩))
    go_ret
    exact ⟨v, ss, rfl, by rw [hS, hfs]; exact List.Perm.refl _, ownsRow_base_a hrow (by rw [alloc_size]; omega), ((RowKit.Below.refl _ w).alloc (Nat.le_refl _) _).trans (hb.mono (by rw [alloc_size]; omega))⟩
  | some mb =>
    rw [hn] at h5
    have hok := hm.ok 1 _ rfl
    simp only [Dv.map, Obj.ok] at hok
    obtain ⟨m, clock, e1, e2, e3⟩ : ∃ m clock, w.heap[mb]? = some (.map m clock) ∧ MapKept.Stamped m clock ∧ m.toList.map (·.key) = (d.fs.map (·.1)).map Value.string := by
      rcases hok with ⟨_, h⟩ | ⟨hnl, b', m, clock, h1, h2, h3, h4⟩
      · rw [hn] at h; cases h
      · rw [hn] at h1; cases h1
        refine ⟨m, clock, h2, h4, ?_⟩
        obtain ⟨σ, hσ⟩ := hm.sub
        obtain ⟨hin, _⟩ := hσ.inner 1 _ rfl rfl
        simp only [Dv.map, Obj.inner] at hin
        rcases hin.2 with ⟨h, _⟩ | ⟨_, b', m', clock', g1, g2, g3, _⟩
        · rw [hnl] at h; cases h
        · rw [hn] at g1; cases g1
          rw [h2] at g2; cases g2
          rw [g3]
          unfold mE
          rw [List.map_map, List.map_map]
          rfl
    have hkeys : ∀ e ∈ m.toList, ∃ s, e.key = .string s ∧ s.size ≤ maxLen := by
      intro e he
      have hmem : e.key ∈ m.toList.map (·.key) := List.mem_map_of_mem he
      rw [e3, List.map_map] at hmem
      obtain ⟨p, hp, hpe⟩ := List.mem_map.1 hmem
      exact ⟨p.1, hpe.symm, hk p hp⟩
    obtain ⟨r1, r2⟩ := rg_string hkeys
    have r2 := r2 _ e3
    have hsz : m.size = d.fs.length := by
      have := congrArg List.length e3
      simpa using this
    have hDl : ((m.toList.map (WideElems.rg Try.prog 9 noR)).foldr DataW.insert []).length = d.fs.length := by
      rw [DataW.length_sorted]; simp [hsz]
    have hown : w.ownsMap Try.prog 9 noR mb m.size (.map ((m.toList.map (WideElems.rg Try.prog 9 noR)).foldr DataW.insert [])) :=
      ⟨m, clock, e1, ⟨by rw [hsz]; exact Nat.le_trans hl (by decide), e2, r1⟩, Nat.le_refl _, rfl⟩
    refine (callsIn_wide (n := 6)).1 ?_
    have hfK : Fence.wide.fn 51 := trivial
    have hfS : Fence.wide.fn 50 := trivial
    refine callsIn_of_wp Try.func40 rfl trivial ?_ rfl
    simp only [Try.ntmps40, List.size_toArray, List.length_cons, List.length_nil, Nat.reduceAdd, Nat.reduceSub, Array.replicate_succ, Array.replicate_zero, List.push_toArray, List.append_toArray, List.nil_append, List.cons_append]
    gi_wp2_with (first
      | (gi_at_call 51; refine (Try.maps_Keys_51 _ _).mono ?_; rintro e w' ⟨rfl, rfl⟩)
      | (gi_at_call 50; refine (Try.slices_Sorted_keys_50_51 mb _ _ noR w hown (by simp only [Maps.size]; rw [hDl]; exact Nat.le_trans hl (by decide)) (by simp only [Maps.size]; rw [hDl]; omega)).mono ?_; rintro e w' ⟨v, ss, rfl, hS, hrow, hnil, hb⟩))
    go_ret
    refine ⟨v, ss, rfl, hS.trans ((strKeys_perm _).trans ?_), ownsRow_base_a hrow (by rw [alloc_size]; omega), ((RowKit.Below.refl _ w).alloc (Nat.le_refl _) _).trans (hb.mono (by rw [alloc_size]; omega))⟩
    rw [r2, List.map_map]
    exact List.Perm.refl _
end Go.Proofs.Ythmhkgddohgoeaa

/- a device: Sync, Read. -/
namespace Go.Proofs.Ythmhkgddohgoeaa
open E
set_option maxRecDepth 100000
set_option linter.unusedVariables false
set_option linter.unusedSimpArgs false

theorem set_back {α : Type} {l : List α} {i : Nat} {x : α} (h : l[i]? = some x) : l.set i x = l := by
  apply List.ext_getElem?
  intro j
  rw [List.getElem?_set]
  by_cases hj : i = j
  · subst hj; rw [if_pos rfl, if_pos (List.getElem?_eq_some_iff.1 h).1, h]
  · rw [if_neg hj]
theorem mE_sync {fs : Fs} {i : Nat} {s : ByteArray} {c : Inn} (bs : List UInt8) : (((mE fs).set i (s, c)).set i (s, Inn.box 1 (bs.map bR) [I (Int.ofNat (bs.map bR).length)])) = mE (fs.set i (s, ⟨bs, Int.ofNat bs.length⟩)) := by
  rw [List.length_map]; exact mE_set _ _
theorem mE_setback {fs : Fs} {i : Nat} {s : ByteArray} {f : Fi} {c : Inn} (h : fs[i]? = some (s, f)) : (((mE fs).set i (s, c)).set i (s, Inn.box 1 (f.bs.map bR) [I f.sure])) = mE fs := by
  rw [mE_set]; unfold mE; rw [List.map_set]; exact set_back (by rw [List.getElem?_map, h]; rfl)
theorem cCloneA_0 (b : UInt8) (l : List UInt8) (hl : l.length + 1 ≤ 1000000000) : Contract Try.prog 41 [.own 0] [.arr 1 ((b :: l).map bR)] (V.sl (1 : Nat) (bR b :: List.map bR l)) ([some (Obj.arr (1 : Nat) (bR b :: List.map bR l))]) :=
  vcP hmix [.reg 3 [(2, [.beO ((b :: l).map bR)], none), (3, [.idx 1], none)]] [] [
      bR b :: List.map bR l ≠ [],
      ((0 : Nat) + List.length (bR b :: List.map bR l)) * (1 : Nat) ≤ (140737488355328 : Nat),
      bR b :: List.map bR l = bR b :: List.map bR l] (by kernel_rfl)
    (by
      simp only [allP]
      and_intros <;> first
        | exact List.cons_ne_nil _ _
        | (simp; done)
        | (simp; omega))

theorem cCloneA (b : UInt8) (l : List UInt8) (hl : l.length + 1 ≤ 1000000000) : Contract Try.prog 41 [.own 0] [.arr 1 ((b :: l).map bR)] (.sl 1 ((b :: l).map bR)) [some (.arr 1 ((b :: l).map bR))] := by
  exact Contract.cast (by
    first
      | rfl) (by
    first
      | rfl) (cCloneA_0 b l hl )

/-- bytes.Clone. -/
theorem cClone (l : List UInt8) (hl : l.length ≤ 1000000000) : Contract Try.prog 41 [.own 0] [.arr 1 (l.map bR)] (.sl 1 (l.map bR)) [some (.arr 1 (l.map bR))] := by
  cases l with
  | nil => exact cClone0
  | cons b l => exact cCloneA b l (by simpa using hl)
theorem mE_undef {fs : Fs} {i : Nat} {s : ByteArray} {c : Inn} : (((mE fs).set i (s, c)).set i (s, Inn.hole .undef)) = (mE fs).set i (s, .hole .undef) := List.set_set ..
theorem cSyncA_0 (d : Dv) (s : ByteArray) (i : Nat) (f : Fi) (hf : d.fuse ≠ 0) (hu : d.fuse ≤ 9223372036854775807) (hi : fat d.fs s = some i) (ha : d.fs[i]? = some (s, f)) : Contract Try.prog 12 [.ptr 0 0 0 0, .val (.string s)] [d.box 1, d.map] (I (0 : Int)) ([some (Obj.box [I (Dv.room d), I (Dv.used d), V.val (Value.int IntKind.u32 (bif Dv.nl d then (0 : Int) else (1 : Int))), V.val (Value.int IntKind.i32 (0 : Int)), V.val (Value.int IntKind.u32 (0 : Int)), V.mref (1 : Nat), I (bif decide (Dv.fuse d > (0 : Int)) then Dv.fuse d + (-1 : Int) else Dv.fuse d)]), some (Obj.nest (Nest.mp (Dv.nl d) (mE (List.set (Dv.fs d) i (s, { bs := Fi.bs f, sure := Int.ofNat (List.length (Fi.bs f)) })))) [])]) :=
  vcP hmix [.reg 1 [(1, [.call [0, 1] [] (I 0) [some (d.box 1), some d.map]], none)], .reg 4 [(5, [.idx i, .inn (.box 1 (f.bs.map bR) [I f.sure])], none)], .reg 7 [(8, [.shutM 1 i s 806000 (mE (d.fs.set i (s, ⟨f.bs, f.bs.length⟩)))], none)], .reg 8 [(1, [.call [0, 1] [] (I 0) [some (({ d with fs := d.fs.set i (s, ⟨f.bs, f.bs.length⟩) } : Dv).went.box 1), some ({ d with fs := d.fs.set i (s, ⟨f.bs, f.bs.length⟩) } : Dv).went.map]], none)]] [] [
      Contract Try.prog (34 : Nat) [V.ptr (0 : Nat) (0 : Nat) (0 : Nat) (0 : Nat)] [Obj.box [I (Dv.room d), I (Dv.used d), V.val (Value.int IntKind.u32 (bif Dv.nl d then (0 : Int) else (1 : Int))), V.val (Value.int IntKind.i32 (0 : Int)), V.val (Value.int IntKind.u32 (0 : Int)), V.mref (1 : Nat), I (Dv.fuse d)], Obj.nest (Nest.mp (Dv.nl d) (mE (Dv.fs d))) []] (I (0 : Int)) [some (Obj.box [I (Dv.room d), I (Dv.used d), V.val (Value.int IntKind.u32 (bif Dv.nl d then (0 : Int) else (1 : Int))), V.val (Value.int IntKind.i32 (0 : Int)), V.val (Value.int IntKind.u32 (0 : Int)), V.mref (1 : Nat), I (Dv.fuse d)]), some (Obj.nest (Nest.mp (Dv.nl d) (mE (Dv.fs d))) [])],
      fidx (mE (Dv.fs d)) s = some i,
      (mE (Dv.fs d))[i]? = some (s, Inn.box (1 : Nat) (List.map bR (Fi.bs f)) [I (Fi.sure f)]),
      (List.set (mE (Dv.fs d)) i (s, Inn.hole (V.ptr (806000 : Nat) (0 : Nat) (0 : Nat) (0 : Nat))))[i]? = some (s, Inn.hole (V.ptr (806000 : Nat) (0 : Nat) (0 : Nat) (0 : Nat))),
      List.set (List.set (mE (Dv.fs d)) i (s, Inn.hole (V.ptr (806000 : Nat) (0 : Nat) (0 : Nat) (0 : Nat)))) i (s, Inn.box (1 : Nat) (List.map bR (Fi.bs f)) [I (Int.ofNat (List.length (List.map bR (Fi.bs f))))]) = mE (List.set (Dv.fs d) i (s, { bs := Fi.bs f, sure := Int.ofNat (List.length (Fi.bs f)) })),
      ∀ (p0 : ByteArray × Inn), List.Mem p0 (mE (List.set (Dv.fs d) i (s, { bs := Fi.bs f, sure := Int.ofNat (List.length (Fi.bs f)) }))) → Inn.ids (Prod.snd p0) = [],
      Contract Try.prog (38 : Nat) [V.ptr (0 : Nat) (0 : Nat) (0 : Nat) (0 : Nat)] [Obj.box [I (Dv.room d), I (Dv.used d), V.val (Value.int IntKind.u32 (bif Dv.nl d then (0 : Int) else (1 : Int))), V.val (Value.int IntKind.i32 (0 : Int)), V.val (Value.int IntKind.u32 (0 : Int)), V.mref (1 : Nat), I (Dv.fuse d)], Obj.nest (Nest.mp (Dv.nl d) (mE (List.set (Dv.fs d) i (s, { bs := Fi.bs f, sure := Int.ofNat (List.length (Fi.bs f)) })))) []] (I (0 : Int)) [some (Obj.box [I (Dv.room d), I (Dv.used d), V.val (Value.int IntKind.u32 (bif Dv.nl d then (0 : Int) else (1 : Int))), V.val (Value.int IntKind.i32 (0 : Int)), V.val (Value.int IntKind.u32 (0 : Int)), V.mref (1 : Nat), I (bif decide (Dv.fuse d > (0 : Int)) then Dv.fuse d + (-1 : Int) else Dv.fuse d)]), some (Obj.nest (Nest.mp (Dv.nl d) (mE (List.set (Dv.fs d) i (s, { bs := Fi.bs f, sure := Int.ofNat (List.length (Fi.bs f)) })))) [])]] (by kernel_rfl)
    (by
      simp only [allP]
      and_intros <;> first
        | exact cDone_ ({ d with fs := d.fs.set i (s, ⟨f.bs, f.bs.length⟩) } : Dv) hu
        | exact mE_sync _
        | exact cMay0 d hf
        | exact mE_ids _
        | exact mE_at ha
        | (rw [fidx_mE]; exact hi)
        | exact mE_get ha)

theorem cSyncA (d : Dv) (s : ByteArray) (i : Nat) (f : Fi) (hf : d.fuse ≠ 0) (hu : d.fuse ≤ 9223372036854775807) (hi : fat d.fs s = some i) (ha : d.fs[i]? = some (s, f)) : Contract Try.prog 12 [.ptr 0 0 0 0, .val (.string s)] [d.box 1, d.map] (I 0) [some (({ d with fs := d.fs.set i (s, ⟨f.bs, f.bs.length⟩) } : Dv).went.box 1), some ({ d with fs := d.fs.set i (s, ⟨f.bs, f.bs.length⟩) } : Dv).went.map] := by
  exact Contract.cast (by
    first
      | rfl) (by
    first
      | rfl) (cSyncA_0 d s i f hf hu hi ha )

theorem cSyncB_0 (d : Dv) (s : ByteArray) (hf : d.fuse ≠ 0) (hi : fat d.fs s = none) : Contract Try.prog 12 [.ptr 0 0 0 0, .val (.string s)] [d.box 1, d.map] (I (4 : Int)) ([some (Obj.box [I (Dv.room d), I (Dv.used d), V.val (Value.int IntKind.u32 (bif Dv.nl d then (0 : Int) else (1 : Int))), V.val (Value.int IntKind.i32 (0 : Int)), V.val (Value.int IntKind.u32 (0 : Int)), V.mref (1 : Nat), I (Dv.fuse d)]), some (Obj.nest (Nest.mp (Dv.nl d) (mE (Dv.fs d))) [])]) :=
  vcP hmix [.reg 1 [(1, [.call [0, 1] [] (I 0) [some (d.box 1), some d.map]], none)], .reg 4 [(5, [.row []], none)]] [] [
      Contract Try.prog (34 : Nat) [V.ptr (0 : Nat) (0 : Nat) (0 : Nat) (0 : Nat)] [Obj.box [I (Dv.room d), I (Dv.used d), V.val (Value.int IntKind.u32 (bif Dv.nl d then (0 : Int) else (1 : Int))), V.val (Value.int IntKind.i32 (0 : Int)), V.val (Value.int IntKind.u32 (0 : Int)), V.mref (1 : Nat), I (Dv.fuse d)], Obj.nest (Nest.mp (Dv.nl d) (mE (Dv.fs d))) []] (I (0 : Int)) [some (Obj.box [I (Dv.room d), I (Dv.used d), V.val (Value.int IntKind.u32 (bif Dv.nl d then (0 : Int) else (1 : Int))), V.val (Value.int IntKind.i32 (0 : Int)), V.val (Value.int IntKind.u32 (0 : Int)), V.mref (1 : Nat), I (Dv.fuse d)]), some (Obj.nest (Nest.mp (Dv.nl d) (mE (Dv.fs d))) [])],
      fidx (mE (Dv.fs d)) s = none] (by kernel_rfl)
    (by
      simp only [allP]
      and_intros <;> first
        | exact cMay0 d hf
        | (rw [fidx_mE]; exact hi))

theorem cSyncB (d : Dv) (s : ByteArray) (hf : d.fuse ≠ 0) (hi : fat d.fs s = none) : Contract Try.prog 12 [.ptr 0 0 0 0, .val (.string s)] [d.box 1, d.map] (I 4) [some (d.box 1), some d.map] := by
  exact Contract.cast (by
    first
      | rfl) (by
    first
      | rfl) (cSyncB_0 d s hf hi )

theorem cSyncC_0 (d : Dv) (s : ByteArray) (hf : d.fuse = 0) : Contract Try.prog 12 [.ptr 0 0 0 0, .val (.string s)] [d.box 1, d.map] (I (5 : Int)) ([some (Obj.box [I (Dv.room d), I (Dv.used d), V.val (Value.int IntKind.u32 (bif Dv.nl d then (0 : Int) else (1 : Int))), V.val (Value.int IntKind.i32 (0 : Int)), V.val (Value.int IntKind.u32 (0 : Int)), V.mref (1 : Nat), I (Dv.fuse d)]), some (Obj.nest (Nest.mp (Dv.nl d) (mE (Dv.fs d))) [])]) :=
  vcP hmix [.reg 1 [(1, [.call [0, 1] [] (I 5) [some (d.box 1), some d.map]], none)]] [] [
      Contract Try.prog (34 : Nat) [V.ptr (0 : Nat) (0 : Nat) (0 : Nat) (0 : Nat)] [Obj.box [I (Dv.room d), I (Dv.used d), V.val (Value.int IntKind.u32 (bif Dv.nl d then (0 : Int) else (1 : Int))), V.val (Value.int IntKind.i32 (0 : Int)), V.val (Value.int IntKind.u32 (0 : Int)), V.mref (1 : Nat), I (Dv.fuse d)], Obj.nest (Nest.mp (Dv.nl d) (mE (Dv.fs d))) []] (I (5 : Int)) [some (Obj.box [I (Dv.room d), I (Dv.used d), V.val (Value.int IntKind.u32 (bif Dv.nl d then (0 : Int) else (1 : Int))), V.val (Value.int IntKind.i32 (0 : Int)), V.val (Value.int IntKind.u32 (0 : Int)), V.mref (1 : Nat), I (Dv.fuse d)]), some (Obj.nest (Nest.mp (Dv.nl d) (mE (Dv.fs d))) [])]] (by kernel_rfl)
    (by
      simp only [allP]
      and_intros <;> first
        | exact cMay5 d hf)

theorem cSyncC (d : Dv) (s : ByteArray) (hf : d.fuse = 0) : Contract Try.prog 12 [.ptr 0 0 0 0, .val (.string s)] [d.box 1, d.map] (I 5) [some (d.box 1), some d.map] := by
  exact Contract.cast (by
    first
      | rfl) (by
    first
      | rfl) (cSyncC_0 d s hf )

theorem cReadA_0 (d : Dv) (s : ByteArray) (i : Nat) (f : Fi) (hi : fat d.fs s = some i) (ha : d.fs[i]? = some (s, f)) (hl : f.bs.length ≤ 1000000000) : Contract Try.prog 18 [.ptr 0 0 0 0, .val (.string s)] [d.box 1, d.map] (V.tup [V.sl (1 : Nat) (List.map bR (Fi.bs f)), Bo true]) ([some (Obj.box [I (Dv.room d), I (Dv.used d), V.val (Value.int IntKind.u32 (bif Dv.nl d then (0 : Int) else (1 : Int))), V.val (Value.int IntKind.i32 (0 : Int)), V.val (Value.int IntKind.u32 (0 : Int)), V.mref (1 : Nat), I (Dv.fuse d)]), some (Obj.nest (Nest.mp (Dv.nl d) (mE (Dv.fs d))) [])]) :=
  vcP hmix [.reg 1 [(8, [.idx i, .inn (.box 1 (f.bs.map bR) [I f.sure]), .shutM 1 i s 209000 (mE d.fs)], none)], .reg 3 [(5, [.idx i, .inn (.box 1 (f.bs.map bR) [I f.sure])], none), (9, [.call [606001] [] (.sl 1 (f.bs.map bR)) [some (.arr 1 (f.bs.map bR))]], none), (11, [.shutM 1 i s 606000 (mE d.fs)], none)]] [] [
      fidx (mE (Dv.fs d)) s = some i,
      (mE (Dv.fs d))[i]? = some (s, Inn.box (1 : Nat) (List.map bR (Fi.bs f)) [I (Fi.sure f)]),
      (List.set (mE (Dv.fs d)) i (s, Inn.hole (V.ptr (209000 : Nat) (0 : Nat) (0 : Nat) (0 : Nat))))[i]? = some (s, Inn.hole (V.ptr (209000 : Nat) (0 : Nat) (0 : Nat) (0 : Nat))),
      List.set (List.set (mE (Dv.fs d)) i (s, Inn.hole (V.ptr (209000 : Nat) (0 : Nat) (0 : Nat) (0 : Nat)))) i (s, Inn.box (1 : Nat) (List.map bR (Fi.bs f)) [I (Fi.sure f)]) = mE (Dv.fs d),
      ∀ (p0 : ByteArray × Inn), List.Mem p0 (mE (Dv.fs d)) → Inn.ids (Prod.snd p0) = [],
      fidx (mE (Dv.fs d)) s = some i,
      (mE (Dv.fs d))[i]? = some (s, Inn.box (1 : Nat) (List.map bR (Fi.bs f)) [I (Fi.sure f)]),
      Contract Try.prog (41 : Nat) [V.own (0 : Nat)] [Obj.arr (1 : Nat) (List.map bR (Fi.bs f))] (V.sl (1 : Nat) (List.map bR (Fi.bs f))) [some (Obj.arr (1 : Nat) (List.map bR (Fi.bs f)))],
      (List.set (mE (Dv.fs d)) i (s, Inn.hole (V.ptr (606000 : Nat) (0 : Nat) (0 : Nat) (0 : Nat))))[i]? = some (s, Inn.hole (V.ptr (606000 : Nat) (0 : Nat) (0 : Nat) (0 : Nat))),
      List.set (List.set (mE (Dv.fs d)) i (s, Inn.hole (V.ptr (606000 : Nat) (0 : Nat) (0 : Nat) (0 : Nat)))) i (s, Inn.box (1 : Nat) (List.map bR (Fi.bs f)) [I (Fi.sure f)]) = mE (Dv.fs d),
      ∀ (p0 : ByteArray × Inn), List.Mem p0 (mE (Dv.fs d)) → Inn.ids (Prod.snd p0) = []] (by kernel_rfl)
    (by
      simp only [allP]
      and_intros <;> first
        | exact cClone _ hl
        | exact mE_ids _
        | exact mE_at ha
        | (rw [fidx_mE]; exact hi)
        | exact mE_get ha
        | exact mE_setback ha)

theorem cReadA (d : Dv) (s : ByteArray) (i : Nat) (f : Fi) (hi : fat d.fs s = some i) (ha : d.fs[i]? = some (s, f)) (hl : f.bs.length ≤ 1000000000) : Contract Try.prog 18 [.ptr 0 0 0 0, .val (.string s)] [d.box 1, d.map] (.tup [.sl 1 (f.bs.map bR), Bo true]) [some (d.box 1), some d.map] := by
  exact Contract.cast (by
    first
      | rfl) (by
    first
      | rfl) (cReadA_0 d s i f hi ha hl )

theorem cReadB_0 (d : Dv) (s : ByteArray) (hi : fat d.fs s = none) : Contract Try.prog 18 [.ptr 0 0 0 0, .val (.string s)] [d.box 1, d.map] (V.tup [V.sl (1 : Nat) [], Bo false]) ([some (Obj.box [I (Dv.room d), I (Dv.used d), V.val (Value.int IntKind.u32 (bif Dv.nl d then (0 : Int) else (1 : Int))), V.val (Value.int IntKind.i32 (0 : Int)), V.val (Value.int IntKind.u32 (0 : Int)), V.mref (1 : Nat), I (Dv.fuse d)]), some (Obj.nest (Nest.mp (Dv.nl d) (mE (Dv.fs d))) [])]) :=
  vcP hmix [.reg 1 [(8, [.row []], none)]] [] [
      fidx (mE (Dv.fs d)) s = none] (by kernel_rfl)
    (by
      simp only [allP]
      and_intros <;> first
        | (rw [fidx_mE]; exact hi))

theorem cReadB (d : Dv) (s : ByteArray) (hi : fat d.fs s = none) : Contract Try.prog 18 [.ptr 0 0 0 0, .val (.string s)] [d.box 1, d.map] (.tup [.sl 1 [], Bo false]) [some (d.box 1), some d.map] := by
  exact Contract.cast (by
    first
      | rfl) (by
    first
      | rfl) (cReadB_0 d s hi )

end Go.Proofs.Ythmhkgddohgoeaa

/- a device: what drops a file. -/
namespace Go.Proofs.Ythmhkgddohgoeaa
open E
set_option maxRecDepth 100000
set_option linter.unusedVariables false
set_option linter.unusedSimpArgs false

theorem mE_era {fs : Fs} {i : Nat} {s : ByteArray} {c : Inn} : (((mE fs).set i (s, c)).eraseIdx i) = mE (fs.eraseIdx i) := by
  rw [← mE_erase, List.eraseIdx_set_eq]
theorem fidx_keys {es : List (ByteArray × Inn)} {fs : Fs} {s : ByteArray} (h : es.map (·.1) = fs.map (·.1)) : fidx es s = fat fs s := by
  unfold fidx fat
  have e1 : es.findIdx? (fun p => s == p.1) = (es.map (·.1)).findIdx? (fun q => s == q) := by rw [List.findIdx?_map]; rfl
  have e2 : fs.findIdx? (fun p => s == p.1) = (fs.map (·.1)).findIdx? (fun q => s == q) := by rw [List.findIdx?_map]; rfl
  rw [e1, e2, h]
theorem keys_set {fs : Fs} {i : Nat} {s : ByteArray} {f : Fi} {c : Inn} (h : fs[i]? = some (s, f)) : ((mE fs).set i (s, c)).map (·.1) = fs.map (·.1) := by
  have e : (mE fs).map (·.1) = fs.map (·.1) := by unfold mE; rw [List.map_map]; rfl
  rw [List.map_set, e]
  exact set_back (by rw [List.getElem?_map, h]; rfl)
theorem keys_set2 {es : List (ByteArray × Inn)} {i : Nat} {s : ByteArray} {c c' : Inn} (h : es[i]? = some (s, c')) : (es.set i (s, c)).map (·.1) = es.map (·.1) := by
  rw [List.map_set]
  exact set_back (by rw [List.getElem?_map, h]; rfl)
theorem fidx_keys2 {es es' : List (ByteArray × Inn)} {s : ByteArray} (h : es.map (·.1) = es'.map (·.1)) : fidx es s = fidx es' s := by
  unfold fidx
  have e1 : es.findIdx? (fun p => s == p.1) = (es.map (·.1)).findIdx? (fun q => s == q) := by rw [List.findIdx?_map]; rfl
  have e2 : es'.findIdx? (fun p => s == p.1) = (es'.map (·.1)).findIdx? (fun q => s == q) := by rw [List.findIdx?_map]; rfl
  rw [e1, e2, h]
theorem get_undef {es : List (ByteArray × Inn)} {i : Nat} {s : ByteArray} {c' c : Inn} (h : es[i]? = some (s, c')) : Option.map (fun x => x.1) (es.set i (s, c))[i]? = some s := by
  rw [List.getElem?_set, if_pos rfl, if_pos (List.getElem?_eq_some_iff.1 h).1]; rfl
theorem ids_undef {es : List (ByteArray × Inn)} {i : Nat} {s : ByteArray} {hs : List Nat} (h : ∀ p ∈ es, ∀ j ∈ p.2.ids, j ∈ hs) : ∀ p ∈ es.set i (s, .hole .undef), ∀ j ∈ p.2.ids, j ∈ hs := by
  intro p hp j hj
  rcases List.mem_or_eq_of_mem_set hp with h1 | h1
  · exact h p h1 j hj
  · subst h1; simp [Inn.ids, V.ids] at hj
theorem era_undef {es : List (ByteArray × Inn)} {i : Nat} {s : ByteArray} {c : Inn} : (es.set i (s, c)).eraseIdx i = es.eraseIdx i := List.eraseIdx_set_eq
theorem ids_none {fs : Fs} : ∀ p ∈ mE fs, ∀ j ∈ p.2.ids, j ∈ ([] : List Nat) := by
  intro p hp j hj
  rw [mE_ids fs p hp] at hj; exact hj
theorem addD {u : Int} {l : Nat} (hu : 0 ≤ u - l) (hm : u ≤ 9223372036854775807) : CellC Try.prog 37 .i64 u (u + -Int.ofNat l) [.int .i64 (-Int.ofNat l)] (.int .i64 (u + -Int.ofNat l)) :=
  addC (i64_small (by simp only [Int.ofNat_eq_natCast]; omega))
theorem negW {u : Int} {l : List UInt8} (hm : u ≤ 9223372036854775807) (hu : 0 ≤ u - l.length) : IntKind.i64.wrap (0 + -Int.ofNat (l.map bR).length) = -Int.ofNat l.length := by
  rw [List.length_map, i64_small (by simp only [Int.ofNat_eq_natCast]; omega)]; omega
theorem ids_hole {fs : Fs} {i k : Nat} {s : ByteArray} : ∀ p ∈ (mE fs).set i (s, .hole (.ptr k 0 0 0)), ∀ j ∈ p.2.ids, j ∈ [k] := by
  intro p hp j hj
  rcases List.mem_or_eq_of_mem_set hp with h1 | h1
  · rw [mE_ids fs p h1] at hj; simp at hj
  · subst h1; simpa [Inn.ids, V.ids] using hj
theorem cDropA_0 (d : Dv) (nl : Bool) (es : List (ByteArray × Inn)) (s : ByteArray) (j : Nat) (bs : List UInt8) (n : Int) (hj : fidx es s = some j) (hg : es[j]? = some (s, Inn.box 1 (bs.map bR) [I n])) (hu : 0 ≤ d.used - bs.length) (hm : d.used ≤ 9223372036854775807) (hids : ∀ p ∈ es, ∀ k ∈ p.2.ids, k ∈ ([] : List Nat)) : Contract Try.prog 42 [.ptr 0 0 0 0, .val (.string s)] [d.box 1, .nest (.mp nl es) []] (V.tup []) ([some (Obj.box [I (Dv.room d), I (Dv.used d + -Int.ofNat (List.length bs)), V.val (Value.int IntKind.u32 (bif Dv.nl d then (0 : Int) else (1 : Int))), V.val (Value.int IntKind.i32 (0 : Int)), V.val (Value.int IntKind.u32 (0 : Int)), V.mref (1 : Nat), I (Dv.fuse d)]), some (Obj.nest (Nest.mp nl (List.eraseIdx es j)) [])]) :=
  vcP hmix [.reg 0 [(5, [.idx j, .inn (.box 1 (bs.map bR) [I n]), .forgM 1 j s (es.set j (s, .hole .undef)) []], none)], .reg 2 [(8, [.be (I (-(bs.length : Int)))], none), (9, [.cellc .i64 (d.used - bs.length) (.int .i64 (d.used - bs.length))], none)], .reg 3 [(5, [.idx j, .beN 1 (es.eraseIdx j)], none)]] [] [
      fidx es s = some j,
      es[j]? = some (s, Inn.box (1 : Nat) (List.map bR bs) [I n]),
      Option.map (fun x0 => Prod.fst x0) (List.set es j (s, Inn.hole (V.ptr (6000 : Nat) (0 : Nat) (0 : Nat) (0 : Nat))))[j]? = some s,
      List.set (List.set es j (s, Inn.hole (V.ptr (6000 : Nat) (0 : Nat) (0 : Nat) (0 : Nat)))) j (s, Inn.hole V.undef) = List.set es j (s, Inn.hole V.undef),
      ∀ (p0 : ByteArray × Inn), List.Mem p0 (List.set es j (s, Inn.hole V.undef)) → ∀ (j2 : Nat), List.Mem j2 (Inn.ids (Prod.snd p0)) → List.Mem j2 [],
      IntKind.wrap IntKind.i64 ((0 : Int) + -Int.ofNat (List.length (List.map bR bs))) = -Int.ofNat (List.length bs),
      CellC Try.prog (37 : Nat) IntKind.i64 (Dv.used d) (Dv.used d + -Int.ofNat (List.length bs)) [Value.int IntKind.i64 (-Int.ofNat (List.length bs))] (Value.int IntKind.i64 (Dv.used d + -Int.ofNat (List.length bs))),
      fidx (List.set es j (s, Inn.hole V.undef)) s = some j,
      List.eraseIdx (List.set es j (s, Inn.hole V.undef)) j = List.eraseIdx es j] (by kernel_rfl)
    (by
      simp only [allP]
      and_intros <;> first
        | omega
        | exact addD hu hm
        | exact negW hm hu
        | exact List.set_set ..
        | exact get_undef hg
        | exact ids_undef hids
        | exact era_undef
        | (rw [fidx_keys2 (keys_set2 hg)]; exact hj))

theorem cDropA (d : Dv) (nl : Bool) (es : List (ByteArray × Inn)) (s : ByteArray) (j : Nat) (bs : List UInt8) (n : Int) (hj : fidx es s = some j) (hg : es[j]? = some (s, Inn.box 1 (bs.map bR) [I n])) (hu : 0 ≤ d.used - bs.length) (hm : d.used ≤ 9223372036854775807) (hids : ∀ p ∈ es, ∀ k ∈ p.2.ids, k ∈ ([] : List Nat)) : Contract Try.prog 42 [.ptr 0 0 0 0, .val (.string s)] [d.box 1, .nest (.mp nl es) []] (.tup []) [some ((⟨d.room, d.used - bs.length, d.nl, d.fs, d.fuse⟩ : Dv).box 1), some (.nest (.mp nl (es.eraseIdx j)) [])] := by
  exact Contract.cast (by
    first
      | rfl) (by
    first
      | rfl) (cDropA_0 d nl es s j bs n hj hg hu hm hids )

theorem cDropN_0 (d : Dv) (nl : Bool) (es : List (ByteArray × Inn)) (s : ByteArray) (hj : fidx es s = none) : Contract Try.prog 42 [.ptr 0 0 0 0, .val (.string s)] [d.box 1, .nest (.mp nl es) []] (V.tup []) ([some (Obj.box [I (Dv.room d), I (Dv.used d), V.val (Value.int IntKind.u32 (bif Dv.nl d then (0 : Int) else (1 : Int))), V.val (Value.int IntKind.i32 (0 : Int)), V.val (Value.int IntKind.u32 (0 : Int)), V.mref (1 : Nat), I (Dv.fuse d)]), some (Obj.nest (Nest.mp nl es) [])]) :=
  vcP hmix [.reg 0 [(5, [.row []], none)]] [] [
      fidx es s = none] (by kernel_rfl)
    (by
      simp only [allP]
      and_intros <;> first
        | omega)

theorem cDropN (d : Dv) (nl : Bool) (es : List (ByteArray × Inn)) (s : ByteArray) (hj : fidx es s = none) : Contract Try.prog 42 [.ptr 0 0 0 0, .val (.string s)] [d.box 1, .nest (.mp nl es) []] (.tup []) [some (d.box 1), some (.nest (.mp nl es) [])] := by
  exact Contract.cast (by
    first
      | rfl) (by
    first
      | rfl) (cDropN_0 d nl es s hj )

theorem dropF (d : Dv) {s : ByteArray} {i : Nat} {f : Fi} (hi : fat d.fs s = some i) (ha : d.fs[i]? = some (s, f)) (hu : 0 ≤ d.used - f.bs.length) (hm : d.used ≤ 9223372036854775807) :
    Contract Try.prog 42 [.ptr 0 0 0 0, .val (.string s)] [d.box 1, d.map] (.tup []) [some ((⟨d.room, d.used - f.bs.length, d.nl, d.fs.eraseIdx i, d.fuse⟩ : Dv).box 1), some (⟨d.room, d.used - f.bs.length, d.nl, d.fs.eraseIdx i, d.fuse⟩ : Dv).map] := by
  have := cDropA d d.nl (mE d.fs) s i f.bs f.sure (by rw [fidx_mE]; exact hi) (mE_at ha) hu hm ids_none
  rw [mE_erase] at this
  exact this
theorem cDelA_0 (d : Dv) (s : ByteArray) (i : Nat) (f : Fi) (hf : d.fuse ≠ 0) (hfu : d.fuse ≤ 9223372036854775807) (hi : fat d.fs s = some i) (ha : d.fs[i]? = some (s, f)) (hu : 0 ≤ d.used - f.bs.length) (hm : d.used ≤ 9223372036854775807) : Contract Try.prog 16 [.ptr 0 0 0 0, .val (.string s)] [d.box 1, d.map] (I (0 : Int)) ([some (Obj.box [I (Dv.room d), I (Dv.used d + -Int.ofNat (List.length (Fi.bs f))), V.val (Value.int IntKind.u32 (bif Dv.nl d then (0 : Int) else (1 : Int))), V.val (Value.int IntKind.i32 (0 : Int)), V.val (Value.int IntKind.u32 (0 : Int)), V.mref (1 : Nat), I (bif decide (Dv.fuse d > (0 : Int)) then Dv.fuse d + (-1 : Int) else Dv.fuse d)]), some (Obj.nest (Nest.mp (Dv.nl d) (mE (List.eraseIdx (Dv.fs d) i))) [])]) :=
  vcP hmix [.reg 1 [(1, [.call [0, 1] [] (I 0) [some (d.box 1), some d.map]], none)], .reg 4 [(5, [.idx i, .inn (.box 1 (f.bs.map bR) [I f.sure]), .shutM 1 i s 806000 (mE d.fs)], none)], .reg 6 [(2, [.call [0, 1] [] (.tup []) [some ((⟨d.room, d.used - f.bs.length, d.nl, d.fs.eraseIdx i, d.fuse⟩ : Dv).box 1), some (⟨d.room, d.used - f.bs.length, d.nl, d.fs.eraseIdx i, d.fuse⟩ : Dv).map]], none)], .reg 7 [(1, [.call [0, 1] [] (I 0) [some ((⟨d.room, d.used - f.bs.length, d.nl, d.fs.eraseIdx i, d.fuse⟩ : Dv).went.box 1), some (⟨d.room, d.used - f.bs.length, d.nl, d.fs.eraseIdx i, d.fuse⟩ : Dv).went.map]], none)]] [] [
      Contract Try.prog (34 : Nat) [V.ptr (0 : Nat) (0 : Nat) (0 : Nat) (0 : Nat)] [Obj.box [I (Dv.room d), I (Dv.used d), V.val (Value.int IntKind.u32 (bif Dv.nl d then (0 : Int) else (1 : Int))), V.val (Value.int IntKind.i32 (0 : Int)), V.val (Value.int IntKind.u32 (0 : Int)), V.mref (1 : Nat), I (Dv.fuse d)], Obj.nest (Nest.mp (Dv.nl d) (mE (Dv.fs d))) []] (I (0 : Int)) [some (Obj.box [I (Dv.room d), I (Dv.used d), V.val (Value.int IntKind.u32 (bif Dv.nl d then (0 : Int) else (1 : Int))), V.val (Value.int IntKind.i32 (0 : Int)), V.val (Value.int IntKind.u32 (0 : Int)), V.mref (1 : Nat), I (Dv.fuse d)]), some (Obj.nest (Nest.mp (Dv.nl d) (mE (Dv.fs d))) [])],
      fidx (mE (Dv.fs d)) s = some i,
      (mE (Dv.fs d))[i]? = some (s, Inn.box (1 : Nat) (List.map bR (Fi.bs f)) [I (Fi.sure f)]),
      (List.set (mE (Dv.fs d)) i (s, Inn.hole (V.ptr (806000 : Nat) (0 : Nat) (0 : Nat) (0 : Nat))))[i]? = some (s, Inn.hole (V.ptr (806000 : Nat) (0 : Nat) (0 : Nat) (0 : Nat))),
      List.set (List.set (mE (Dv.fs d)) i (s, Inn.hole (V.ptr (806000 : Nat) (0 : Nat) (0 : Nat) (0 : Nat)))) i (s, Inn.box (1 : Nat) (List.map bR (Fi.bs f)) [I (Fi.sure f)]) = mE (Dv.fs d),
      ∀ (p0 : ByteArray × Inn), List.Mem p0 (mE (Dv.fs d)) → Inn.ids (Prod.snd p0) = [],
      Contract Try.prog (42 : Nat) [V.ptr (0 : Nat) (0 : Nat) (0 : Nat) (0 : Nat), Sg s] [Obj.box [I (Dv.room d), I (Dv.used d), V.val (Value.int IntKind.u32 (bif Dv.nl d then (0 : Int) else (1 : Int))), V.val (Value.int IntKind.i32 (0 : Int)), V.val (Value.int IntKind.u32 (0 : Int)), V.mref (1 : Nat), I (Dv.fuse d)], Obj.nest (Nest.mp (Dv.nl d) (mE (Dv.fs d))) []] (V.tup []) [some (Obj.box [I (Dv.room d), I (Dv.used d + -Int.ofNat (List.length (Fi.bs f))), V.val (Value.int IntKind.u32 (bif Dv.nl d then (0 : Int) else (1 : Int))), V.val (Value.int IntKind.i32 (0 : Int)), V.val (Value.int IntKind.u32 (0 : Int)), V.mref (1 : Nat), I (Dv.fuse d)]), some (Obj.nest (Nest.mp (Dv.nl d) (mE (List.eraseIdx (Dv.fs d) i))) [])],
      Contract Try.prog (38 : Nat) [V.ptr (0 : Nat) (0 : Nat) (0 : Nat) (0 : Nat)] [Obj.box [I (Dv.room d), I (Dv.used d + -Int.ofNat (List.length (Fi.bs f))), V.val (Value.int IntKind.u32 (bif Dv.nl d then (0 : Int) else (1 : Int))), V.val (Value.int IntKind.i32 (0 : Int)), V.val (Value.int IntKind.u32 (0 : Int)), V.mref (1 : Nat), I (Dv.fuse d)], Obj.nest (Nest.mp (Dv.nl d) (mE (List.eraseIdx (Dv.fs d) i))) []] (I (0 : Int)) [some (Obj.box [I (Dv.room d), I (Dv.used d + -Int.ofNat (List.length (Fi.bs f))), V.val (Value.int IntKind.u32 (bif Dv.nl d then (0 : Int) else (1 : Int))), V.val (Value.int IntKind.i32 (0 : Int)), V.val (Value.int IntKind.u32 (0 : Int)), V.mref (1 : Nat), I (bif decide (Dv.fuse d > (0 : Int)) then Dv.fuse d + (-1 : Int) else Dv.fuse d)]), some (Obj.nest (Nest.mp (Dv.nl d) (mE (List.eraseIdx (Dv.fs d) i))) [])]] (by kernel_rfl)
    (by
      simp only [allP]
      and_intros <;> first
        | exact cDone_ (⟨d.room, d.used - f.bs.length, d.nl, d.fs.eraseIdx i, d.fuse⟩ : Dv) hfu
        | exact dropF d hi ha hu hm
        | exact cMay0 d hf
        | exact mE_ids _
        | exact mE_at ha
        | (rw [fidx_mE]; exact hi)
        | exact mE_get ha
        | exact mE_setback ha)

theorem cDelA (d : Dv) (s : ByteArray) (i : Nat) (f : Fi) (hf : d.fuse ≠ 0) (hfu : d.fuse ≤ 9223372036854775807) (hi : fat d.fs s = some i) (ha : d.fs[i]? = some (s, f)) (hu : 0 ≤ d.used - f.bs.length) (hm : d.used ≤ 9223372036854775807) : Contract Try.prog 16 [.ptr 0 0 0 0, .val (.string s)] [d.box 1, d.map] (I 0) [some ((⟨d.room, d.used - f.bs.length, d.nl, d.fs.eraseIdx i, d.fuse⟩ : Dv).went.box 1), some (⟨d.room, d.used - f.bs.length, d.nl, d.fs.eraseIdx i, d.fuse⟩ : Dv).went.map] := by
  exact Contract.cast (by
    first
      | rfl) (by
    first
      | rfl) (cDelA_0 d s i f hf hfu hi ha hu hm )

theorem cDelB_0 (d : Dv) (s : ByteArray) (hf : d.fuse ≠ 0) (hi : fat d.fs s = none) : Contract Try.prog 16 [.ptr 0 0 0 0, .val (.string s)] [d.box 1, d.map] (I (4 : Int)) ([some (Obj.box [I (Dv.room d), I (Dv.used d), V.val (Value.int IntKind.u32 (bif Dv.nl d then (0 : Int) else (1 : Int))), V.val (Value.int IntKind.i32 (0 : Int)), V.val (Value.int IntKind.u32 (0 : Int)), V.mref (1 : Nat), I (Dv.fuse d)]), some (Obj.nest (Nest.mp (Dv.nl d) (mE (Dv.fs d))) [])]) :=
  vcP hmix [.reg 1 [(1, [.call [0, 1] [] (I 0) [some (d.box 1), some d.map]], none)], .reg 4 [(5, [.row []], none)]] [] [
      Contract Try.prog (34 : Nat) [V.ptr (0 : Nat) (0 : Nat) (0 : Nat) (0 : Nat)] [Obj.box [I (Dv.room d), I (Dv.used d), V.val (Value.int IntKind.u32 (bif Dv.nl d then (0 : Int) else (1 : Int))), V.val (Value.int IntKind.i32 (0 : Int)), V.val (Value.int IntKind.u32 (0 : Int)), V.mref (1 : Nat), I (Dv.fuse d)], Obj.nest (Nest.mp (Dv.nl d) (mE (Dv.fs d))) []] (I (0 : Int)) [some (Obj.box [I (Dv.room d), I (Dv.used d), V.val (Value.int IntKind.u32 (bif Dv.nl d then (0 : Int) else (1 : Int))), V.val (Value.int IntKind.i32 (0 : Int)), V.val (Value.int IntKind.u32 (0 : Int)), V.mref (1 : Nat), I (Dv.fuse d)]), some (Obj.nest (Nest.mp (Dv.nl d) (mE (Dv.fs d))) [])],
      fidx (mE (Dv.fs d)) s = none] (by kernel_rfl)
    (by
      simp only [allP]
      and_intros <;> first
        | exact cMay0 d hf
        | (rw [fidx_mE]; exact hi))

theorem cDelB (d : Dv) (s : ByteArray) (hf : d.fuse ≠ 0) (hi : fat d.fs s = none) : Contract Try.prog 16 [.ptr 0 0 0 0, .val (.string s)] [d.box 1, d.map] (I 4) [some (d.box 1), some d.map] := by
  exact Contract.cast (by
    first
      | rfl) (by
    first
      | rfl) (cDelB_0 d s hf hi )

theorem cDelC_0 (d : Dv) (s : ByteArray) (hf : d.fuse = 0) : Contract Try.prog 16 [.ptr 0 0 0 0, .val (.string s)] [d.box 1, d.map] (I (5 : Int)) ([some (Obj.box [I (Dv.room d), I (Dv.used d), V.val (Value.int IntKind.u32 (bif Dv.nl d then (0 : Int) else (1 : Int))), V.val (Value.int IntKind.i32 (0 : Int)), V.val (Value.int IntKind.u32 (0 : Int)), V.mref (1 : Nat), I (Dv.fuse d)]), some (Obj.nest (Nest.mp (Dv.nl d) (mE (Dv.fs d))) [])]) :=
  vcP hmix [.reg 1 [(1, [.call [0, 1] [] (I 5) [some (d.box 1), some d.map]], none)]] [] [
      Contract Try.prog (34 : Nat) [V.ptr (0 : Nat) (0 : Nat) (0 : Nat) (0 : Nat)] [Obj.box [I (Dv.room d), I (Dv.used d), V.val (Value.int IntKind.u32 (bif Dv.nl d then (0 : Int) else (1 : Int))), V.val (Value.int IntKind.i32 (0 : Int)), V.val (Value.int IntKind.u32 (0 : Int)), V.mref (1 : Nat), I (Dv.fuse d)], Obj.nest (Nest.mp (Dv.nl d) (mE (Dv.fs d))) []] (I (5 : Int)) [some (Obj.box [I (Dv.room d), I (Dv.used d), V.val (Value.int IntKind.u32 (bif Dv.nl d then (0 : Int) else (1 : Int))), V.val (Value.int IntKind.i32 (0 : Int)), V.val (Value.int IntKind.u32 (0 : Int)), V.mref (1 : Nat), I (Dv.fuse d)]), some (Obj.nest (Nest.mp (Dv.nl d) (mE (Dv.fs d))) [])]] (by kernel_rfl)
    (by
      simp only [allP]
      and_intros <;> first
        | exact cMay5 d hf)

theorem cDelC (d : Dv) (s : ByteArray) (hf : d.fuse = 0) : Contract Try.prog 16 [.ptr 0 0 0 0, .val (.string s)] [d.box 1, d.map] (I 5) [some (d.box 1), some d.map] := by
  exact Contract.cast (by
    first
      | rfl) (by
    first
      | rfl) (cDelC_0 d s hf )

end Go.Proofs.Ythmhkgddohgoeaa

/- a device: Rename. -/
namespace Go.Proofs.Ythmhkgddohgoeaa
open E
set_option maxRecDepth 100000
set_option linter.unusedVariables false
set_option linter.unusedSimpArgs false

theorem fidx_und {fs : Fs} {i : Nat} {s t : ByteArray} {f : Fi} {c : Inn} (h : fs[i]? = some (s, f)) : fidx ((mE fs).set i (s, c)) t = fat fs t := fidx_keys (keys_set h)
theorem fidx_und2 {fs : Fs} {i j : Nat} {s t : ByteArray} {f : Fi} {c : Inn} (h : fs[i]? = some (s, f)) : fidx (((mE fs).set i (s, c)).eraseIdx j) t = fat (fs.eraseIdx j) t :=
  fidx_keys (by rw [map_erase, keys_set h, ← map_erase])
theorem get_other {fs : Fs} {i j : Nat} {s t : ByteArray} {g : Fi} {c : Inn} (hij : i ≠ j) (h : fs[j]? = some (t, g)) : ((mE fs).set i (s, c))[j]? = some (t, Inn.box 1 (g.bs.map bR) [I g.sure]) := by
  rw [List.getElem?_set, if_neg hij]; exact mE_at h
theorem get_undef2 {fs : Fs} {i : Nat} {s : ByteArray} {f : Fi} {c : Inn} (h : fs[i]? = some (s, f)) : Option.map (fun x => x.1) ((mE fs).set i (s, c))[i]? = some s := get_undef (mE_at h)
theorem cRenC_0 (d : Dv) (s t : ByteArray) (hf : d.fuse = 0) : Contract Try.prog 19 [.ptr 0 0 0 0, .val (.string s), .val (.string t)] [d.box 1, d.map] (I (5 : Int)) ([some (Obj.box [I (Dv.room d), I (Dv.used d), V.val (Value.int IntKind.u32 (bif Dv.nl d then (0 : Int) else (1 : Int))), V.val (Value.int IntKind.i32 (0 : Int)), V.val (Value.int IntKind.u32 (0 : Int)), V.mref (1 : Nat), I (Dv.fuse d)]), some (Obj.nest (Nest.mp (Dv.nl d) (mE (Dv.fs d))) [])]) :=
  vcP hmix [.reg 1 [(1, [.call [0, 1] [] (I 5) [some (d.box 1), some d.map]], none)]] [] [
      Contract Try.prog (34 : Nat) [V.ptr (0 : Nat) (0 : Nat) (0 : Nat) (0 : Nat)] [Obj.box [I (Dv.room d), I (Dv.used d), V.val (Value.int IntKind.u32 (bif Dv.nl d then (0 : Int) else (1 : Int))), V.val (Value.int IntKind.i32 (0 : Int)), V.val (Value.int IntKind.u32 (0 : Int)), V.mref (1 : Nat), I (Dv.fuse d)], Obj.nest (Nest.mp (Dv.nl d) (mE (Dv.fs d))) []] (I (5 : Int)) [some (Obj.box [I (Dv.room d), I (Dv.used d), V.val (Value.int IntKind.u32 (bif Dv.nl d then (0 : Int) else (1 : Int))), V.val (Value.int IntKind.i32 (0 : Int)), V.val (Value.int IntKind.u32 (0 : Int)), V.mref (1 : Nat), I (Dv.fuse d)]), some (Obj.nest (Nest.mp (Dv.nl d) (mE (Dv.fs d))) [])]] (by kernel_rfl)
    (by
      simp only [allP]
      and_intros <;> first
        | exact cMay5 d hf)

theorem cRenC (d : Dv) (s t : ByteArray) (hf : d.fuse = 0) : Contract Try.prog 19 [.ptr 0 0 0 0, .val (.string s), .val (.string t)] [d.box 1, d.map] (I 5) [some (d.box 1), some d.map] := by
  exact Contract.cast (by
    first
      | rfl) (by
    first
      | rfl) (cRenC_0 d s t hf )

theorem cRenB_0 (d : Dv) (s t : ByteArray) (hf : d.fuse ≠ 0) (hi : fat d.fs s = none) : Contract Try.prog 19 [.ptr 0 0 0 0, .val (.string s), .val (.string t)] [d.box 1, d.map] (I (4 : Int)) ([some (Obj.box [I (Dv.room d), I (Dv.used d), V.val (Value.int IntKind.u32 (bif Dv.nl d then (0 : Int) else (1 : Int))), V.val (Value.int IntKind.i32 (0 : Int)), V.val (Value.int IntKind.u32 (0 : Int)), V.mref (1 : Nat), I (Dv.fuse d)]), some (Obj.nest (Nest.mp (Dv.nl d) (mE (Dv.fs d))) [])]) :=
  vcP hmix [.reg 1 [(1, [.call [0, 1] [] (I 0) [some (d.box 1), some d.map]], none)], .reg 4 [(5, [.row []], none)]] [] [
      Contract Try.prog (34 : Nat) [V.ptr (0 : Nat) (0 : Nat) (0 : Nat) (0 : Nat)] [Obj.box [I (Dv.room d), I (Dv.used d), V.val (Value.int IntKind.u32 (bif Dv.nl d then (0 : Int) else (1 : Int))), V.val (Value.int IntKind.i32 (0 : Int)), V.val (Value.int IntKind.u32 (0 : Int)), V.mref (1 : Nat), I (Dv.fuse d)], Obj.nest (Nest.mp (Dv.nl d) (mE (Dv.fs d))) []] (I (0 : Int)) [some (Obj.box [I (Dv.room d), I (Dv.used d), V.val (Value.int IntKind.u32 (bif Dv.nl d then (0 : Int) else (1 : Int))), V.val (Value.int IntKind.i32 (0 : Int)), V.val (Value.int IntKind.u32 (0 : Int)), V.mref (1 : Nat), I (Dv.fuse d)]), some (Obj.nest (Nest.mp (Dv.nl d) (mE (Dv.fs d))) [])],
      fidx (mE (Dv.fs d)) s = none] (by kernel_rfl)
    (by
      simp only [allP]
      and_intros <;> first
        | exact cMay0 d hf
        | (rw [fidx_mE]; exact hi))

theorem cRenB (d : Dv) (s t : ByteArray) (hf : d.fuse ≠ 0) (hi : fat d.fs s = none) : Contract Try.prog 19 [.ptr 0 0 0 0, .val (.string s), .val (.string t)] [d.box 1, d.map] (I 4) [some (d.box 1), some d.map] := by
  exact Contract.cast (by
    first
      | rfl) (by
    first
      | rfl) (cRenB_0 d s t hf hi )

theorem cRenE_0 (d : Dv) (s t : ByteArray) (i : Nat) (f : Fi) (hf : d.fuse ≠ 0) (ht : (ByteArray.toList t == []) = true) (hi : fat d.fs s = some i) (ha : d.fs[i]? = some (s, f)) : Contract Try.prog 19 [.ptr 0 0 0 0, .val (.string s), .val (.string t)] [d.box 1, d.map] (I (1 : Int)) ([some (Obj.box [I (Dv.room d), I (Dv.used d), V.val (Value.int IntKind.u32 (bif Dv.nl d then (0 : Int) else (1 : Int))), V.val (Value.int IntKind.i32 (0 : Int)), V.val (Value.int IntKind.u32 (0 : Int)), V.mref (1 : Nat), I (Dv.fuse d)]), some (Obj.nest (Nest.mp (Dv.nl d) (mE (Dv.fs d))) [])]) :=
  vcP hmix [.reg 1 [(1, [.call [0, 1] [] (I 0) [some (d.box 1), some d.map]], none)], .reg 4 [(5, [.idx i, .inn (.box 1 (f.bs.map bR) [I f.sure]), .shutM 1 i s 806000 (mE d.fs)], none)], .reg 7 [(1, [], some true)]] [] [
      Contract Try.prog (34 : Nat) [V.ptr (0 : Nat) (0 : Nat) (0 : Nat) (0 : Nat)] [Obj.box [I (Dv.room d), I (Dv.used d), V.val (Value.int IntKind.u32 (bif Dv.nl d then (0 : Int) else (1 : Int))), V.val (Value.int IntKind.i32 (0 : Int)), V.val (Value.int IntKind.u32 (0 : Int)), V.mref (1 : Nat), I (Dv.fuse d)], Obj.nest (Nest.mp (Dv.nl d) (mE (Dv.fs d))) []] (I (0 : Int)) [some (Obj.box [I (Dv.room d), I (Dv.used d), V.val (Value.int IntKind.u32 (bif Dv.nl d then (0 : Int) else (1 : Int))), V.val (Value.int IntKind.i32 (0 : Int)), V.val (Value.int IntKind.u32 (0 : Int)), V.mref (1 : Nat), I (Dv.fuse d)]), some (Obj.nest (Nest.mp (Dv.nl d) (mE (Dv.fs d))) [])],
      fidx (mE (Dv.fs d)) s = some i,
      (mE (Dv.fs d))[i]? = some (s, Inn.box (1 : Nat) (List.map bR (Fi.bs f)) [I (Fi.sure f)]),
      (List.set (mE (Dv.fs d)) i (s, Inn.hole (V.ptr (806000 : Nat) (0 : Nat) (0 : Nat) (0 : Nat))))[i]? = some (s, Inn.hole (V.ptr (806000 : Nat) (0 : Nat) (0 : Nat) (0 : Nat))),
      List.set (List.set (mE (Dv.fs d)) i (s, Inn.hole (V.ptr (806000 : Nat) (0 : Nat) (0 : Nat) (0 : Nat)))) i (s, Inn.box (1 : Nat) (List.map bR (Fi.bs f)) [I (Fi.sure f)]) = mE (Dv.fs d),
      ∀ (p0 : ByteArray × Inn), List.Mem p0 (mE (Dv.fs d)) → Inn.ids (Prod.snd p0) = [],
      (ByteArray.toList t == []) = true] (by kernel_rfl)
    (by
      simp only [allP]
      and_intros <;> first
        | omega
        | exact cMay0 d hf
        | exact mE_ids _
        | exact mE_at ha
        | (rw [fidx_mE]; exact hi)
        | exact mE_get ha
        | exact mE_setback ha)

theorem cRenE (d : Dv) (s t : ByteArray) (i : Nat) (f : Fi) (hf : d.fuse ≠ 0) (ht : (ByteArray.toList t == []) = true) (hi : fat d.fs s = some i) (ha : d.fs[i]? = some (s, f)) : Contract Try.prog 19 [.ptr 0 0 0 0, .val (.string s), .val (.string t)] [d.box 1, d.map] (I 1) [some (d.box 1), some d.map] := by
  exact Contract.cast (by
    first
      | rfl) (by
    first
      | rfl) (cRenE_0 d s t i f hf ht hi ha )

theorem cRenS_0 (d : Dv) (s : ByteArray) (i : Nat) (f : Fi) (hf : d.fuse ≠ 0) (hfu : d.fuse ≤ 9223372036854775807) (ht : (ByteArray.toList s == []) = false) (hi : fat d.fs s = some i) (ha : d.fs[i]? = some (s, f)) : Contract Try.prog 19 [.ptr 0 0 0 0, .val (.string s), .val (.string s)] [d.box 1, d.map] (I (0 : Int)) ([some (Obj.box [I (Dv.room d), I (Dv.used d), V.val (Value.int IntKind.u32 (bif Dv.nl d then (0 : Int) else (1 : Int))), V.val (Value.int IntKind.i32 (0 : Int)), V.val (Value.int IntKind.u32 (0 : Int)), V.mref (1 : Nat), I (bif decide (Dv.fuse d > (0 : Int)) then Dv.fuse d + (-1 : Int) else Dv.fuse d)]), some (Obj.nest (Nest.mp (Dv.nl d) (mE (Dv.fs d))) [])]) :=
  vcP hmix [.reg 1 [(1, [.call [0, 1] [] (I 0) [some (d.box 1), some d.map]], none)], .reg 4 [(5, [.idx i, .inn (.box 1 (f.bs.map bR) [I f.sure]), .shutM 1 i s 806000 (mE d.fs)], none)], .reg 7 [(1, [], some false)], .reg 9 [(2, [], some false)], .reg 13 [(1, [.call [0, 1] [] (I 0) [some (d.went.box 1), some d.went.map]], none)]] [] [
      Contract Try.prog (34 : Nat) [V.ptr (0 : Nat) (0 : Nat) (0 : Nat) (0 : Nat)] [Obj.box [I (Dv.room d), I (Dv.used d), V.val (Value.int IntKind.u32 (bif Dv.nl d then (0 : Int) else (1 : Int))), V.val (Value.int IntKind.i32 (0 : Int)), V.val (Value.int IntKind.u32 (0 : Int)), V.mref (1 : Nat), I (Dv.fuse d)], Obj.nest (Nest.mp (Dv.nl d) (mE (Dv.fs d))) []] (I (0 : Int)) [some (Obj.box [I (Dv.room d), I (Dv.used d), V.val (Value.int IntKind.u32 (bif Dv.nl d then (0 : Int) else (1 : Int))), V.val (Value.int IntKind.i32 (0 : Int)), V.val (Value.int IntKind.u32 (0 : Int)), V.mref (1 : Nat), I (Dv.fuse d)]), some (Obj.nest (Nest.mp (Dv.nl d) (mE (Dv.fs d))) [])],
      fidx (mE (Dv.fs d)) s = some i,
      (mE (Dv.fs d))[i]? = some (s, Inn.box (1 : Nat) (List.map bR (Fi.bs f)) [I (Fi.sure f)]),
      (List.set (mE (Dv.fs d)) i (s, Inn.hole (V.ptr (806000 : Nat) (0 : Nat) (0 : Nat) (0 : Nat))))[i]? = some (s, Inn.hole (V.ptr (806000 : Nat) (0 : Nat) (0 : Nat) (0 : Nat))),
      List.set (List.set (mE (Dv.fs d)) i (s, Inn.hole (V.ptr (806000 : Nat) (0 : Nat) (0 : Nat) (0 : Nat)))) i (s, Inn.box (1 : Nat) (List.map bR (Fi.bs f)) [I (Fi.sure f)]) = mE (Dv.fs d),
      ∀ (p0 : ByteArray × Inn), List.Mem p0 (mE (Dv.fs d)) → Inn.ids (Prod.snd p0) = [],
      (ByteArray.toList s == []) = false,
      (!ByteArray.toList s == ByteArray.toList s) = false,
      Contract Try.prog (38 : Nat) [V.ptr (0 : Nat) (0 : Nat) (0 : Nat) (0 : Nat)] [Obj.box [I (Dv.room d), I (Dv.used d), V.val (Value.int IntKind.u32 (bif Dv.nl d then (0 : Int) else (1 : Int))), V.val (Value.int IntKind.i32 (0 : Int)), V.val (Value.int IntKind.u32 (0 : Int)), V.mref (1 : Nat), I (Dv.fuse d)], Obj.nest (Nest.mp (Dv.nl d) (mE (Dv.fs d))) []] (I (0 : Int)) [some (Obj.box [I (Dv.room d), I (Dv.used d), V.val (Value.int IntKind.u32 (bif Dv.nl d then (0 : Int) else (1 : Int))), V.val (Value.int IntKind.i32 (0 : Int)), V.val (Value.int IntKind.u32 (0 : Int)), V.mref (1 : Nat), I (bif decide (Dv.fuse d > (0 : Int)) then Dv.fuse d + (-1 : Int) else Dv.fuse d)]), some (Obj.nest (Nest.mp (Dv.nl d) (mE (Dv.fs d))) [])]] (by kernel_rfl)
    (by
      simp only [allP]
      and_intros <;> first
        | omega
        | exact cDone_ d hfu
        | exact cMay0 d hf
        | exact mE_ids _
        | exact mE_at ha
        | (rw [fidx_mE]; exact hi)
        | exact mE_get ha
        | exact mE_setback ha
        | (simp; done))

theorem cRenS (d : Dv) (s : ByteArray) (i : Nat) (f : Fi) (hf : d.fuse ≠ 0) (hfu : d.fuse ≤ 9223372036854775807) (ht : (ByteArray.toList s == []) = false) (hi : fat d.fs s = some i) (ha : d.fs[i]? = some (s, f)) : Contract Try.prog 19 [.ptr 0 0 0 0, .val (.string s), .val (.string s)] [d.box 1, d.map] (I 0) [some (d.went.box 1), some d.went.map] := by
  exact Contract.cast (by
    first
      | rfl) (by
    first
      | rfl) (cRenS_0 d s i f hf hfu ht hi ha )

theorem cRenN_0 (d : Dv) (s t : ByteArray) (i : Nat) (f : Fi) (hf : d.fuse ≠ 0) (hfu : d.fuse ≤ 9223372036854775807) (ht : (ByteArray.toList t == []) = false) (hst : (!(ByteArray.toList s == ByteArray.toList t)) = true) (hnl : d.nl = false) (hi : fat d.fs s = some i) (ha : d.fs[i]? = some (s, f)) (hj : fat d.fs t = none) (hk : fat (d.fs.eraseIdx i) t = none) : Contract Try.prog 19 [.ptr 0 0 0 0, .val (.string s), .val (.string t)] [d.box 1, d.map] (I (0 : Int)) ([some (Obj.box [I (Dv.room d), I (Dv.used d), V.val (Value.int IntKind.u32 (bif Dv.nl d then (0 : Int) else (1 : Int))), V.val (Value.int IntKind.i32 (0 : Int)), V.val (Value.int IntKind.u32 (0 : Int)), V.mref (1 : Nat), I (bif decide (Dv.fuse d > (0 : Int)) then Dv.fuse d + (-1 : Int) else Dv.fuse d)]), some (Obj.nest (Nest.mp (Dv.nl d) (mE (List.eraseIdx (Dv.fs d) i ++ [(t, { bs := Fi.bs f, sure := Fi.sure f })]))) [])]) :=
  vcP hmix [.reg 1 [(1, [.call [0, 1] [] (I 0) [some (d.box 1), some d.map]], none)], .reg 4 [(5, [.idx i, .inn (.box 1 (f.bs.map bR) [I f.sure]), .forgM 1 i s ((mE d.fs).set i (s, .hole .undef)) []], none)], .reg 7 [(1, [], some false)], .reg 9 [(2, [], some true)], .reg 10 [(2, [.call [0, 1] [] (.tup []) [some (d.box 1), some (.nest (.mp d.nl ((mE d.fs).set i (s, .hole .undef))) [])]], none)], .reg 11 [(5, [.idx i, .beN 1 (mE (d.fs.eraseIdx i))], none)], .reg 12 [(6, [.shutM 1 (d.fs.eraseIdx i).length t 806000 (mE (d.fs.eraseIdx i ++ [(t, ⟨f.bs, f.sure⟩)]))], none)], .reg 13 [(1, [.call [0, 1] [] (I 0) [some ((⟨d.room, d.used, d.nl, d.fs.eraseIdx i ++ [(t, ⟨f.bs, f.sure⟩)], d.fuse⟩ : Dv).went.box 1), some (⟨d.room, d.used, d.nl, d.fs.eraseIdx i ++ [(t, ⟨f.bs, f.sure⟩)], d.fuse⟩ : Dv).went.map]], none)]] [] [
      Contract Try.prog (34 : Nat) [V.ptr (0 : Nat) (0 : Nat) (0 : Nat) (0 : Nat)] [Obj.box [I (Dv.room d), I (Dv.used d), V.val (Value.int IntKind.u32 (bif Dv.nl d then (0 : Int) else (1 : Int))), V.val (Value.int IntKind.i32 (0 : Int)), V.val (Value.int IntKind.u32 (0 : Int)), V.mref (1 : Nat), I (Dv.fuse d)], Obj.nest (Nest.mp (Dv.nl d) (mE (Dv.fs d))) []] (I (0 : Int)) [some (Obj.box [I (Dv.room d), I (Dv.used d), V.val (Value.int IntKind.u32 (bif Dv.nl d then (0 : Int) else (1 : Int))), V.val (Value.int IntKind.i32 (0 : Int)), V.val (Value.int IntKind.u32 (0 : Int)), V.mref (1 : Nat), I (Dv.fuse d)]), some (Obj.nest (Nest.mp (Dv.nl d) (mE (Dv.fs d))) [])],
      fidx (mE (Dv.fs d)) s = some i,
      (mE (Dv.fs d))[i]? = some (s, Inn.box (1 : Nat) (List.map bR (Fi.bs f)) [I (Fi.sure f)]),
      Option.map (fun x0 => Prod.fst x0) (List.set (mE (Dv.fs d)) i (s, Inn.hole (V.ptr (806000 : Nat) (0 : Nat) (0 : Nat) (0 : Nat))))[i]? = some s,
      List.set (List.set (mE (Dv.fs d)) i (s, Inn.hole (V.ptr (806000 : Nat) (0 : Nat) (0 : Nat) (0 : Nat)))) i (s, Inn.hole V.undef) = List.set (mE (Dv.fs d)) i (s, Inn.hole V.undef),
      ∀ (p0 : ByteArray × Inn), List.Mem p0 (List.set (mE (Dv.fs d)) i (s, Inn.hole V.undef)) → ∀ (j2 : Nat), List.Mem j2 (Inn.ids (Prod.snd p0)) → List.Mem j2 [],
      (ByteArray.toList t == []) = false,
      (!ByteArray.toList s == ByteArray.toList t) = true,
      Contract Try.prog (42 : Nat) [V.ptr (0 : Nat) (0 : Nat) (0 : Nat) (0 : Nat), Sg t] [Obj.box [I (Dv.room d), I (Dv.used d), V.val (Value.int IntKind.u32 (bif Dv.nl d then (0 : Int) else (1 : Int))), V.val (Value.int IntKind.i32 (0 : Int)), V.val (Value.int IntKind.u32 (0 : Int)), V.mref (1 : Nat), I (Dv.fuse d)], Obj.nest (Nest.mp (Dv.nl d) (List.set (mE (Dv.fs d)) i (s, Inn.hole V.undef))) []] (V.tup []) [some (Obj.box [I (Dv.room d), I (Dv.used d), V.val (Value.int IntKind.u32 (bif Dv.nl d then (0 : Int) else (1 : Int))), V.val (Value.int IntKind.i32 (0 : Int)), V.val (Value.int IntKind.u32 (0 : Int)), V.mref (1 : Nat), I (Dv.fuse d)]), some (Obj.nest (Nest.mp (Dv.nl d) (List.set (mE (Dv.fs d)) i (s, Inn.hole V.undef))) [])],
      fidx (List.set (mE (Dv.fs d)) i (s, Inn.hole V.undef)) s = some i,
      List.eraseIdx (List.set (mE (Dv.fs d)) i (s, Inn.hole V.undef)) i = mE (List.eraseIdx (Dv.fs d) i),
      Dv.nl d = false,
      fidx (mE (List.eraseIdx (Dv.fs d) i)) t = none,
      (mE (List.eraseIdx (Dv.fs d) i) ++ [(t, Inn.hole (V.ptr (806000 : Nat) (0 : Nat) (0 : Nat) (0 : Nat)))])[List.length (List.eraseIdx (Dv.fs d) i)]? = some (t, Inn.hole (V.ptr (806000 : Nat) (0 : Nat) (0 : Nat) (0 : Nat))),
      List.set (mE (List.eraseIdx (Dv.fs d) i) ++ [(t, Inn.hole (V.ptr (806000 : Nat) (0 : Nat) (0 : Nat) (0 : Nat)))]) (List.length (List.eraseIdx (Dv.fs d) i)) (t, Inn.box (1 : Nat) (List.map bR (Fi.bs f)) [I (Fi.sure f)]) = mE (List.eraseIdx (Dv.fs d) i ++ [(t, { bs := Fi.bs f, sure := Fi.sure f })]),
      ∀ (p0 : ByteArray × Inn), List.Mem p0 (mE (List.eraseIdx (Dv.fs d) i ++ [(t, { bs := Fi.bs f, sure := Fi.sure f })])) → Inn.ids (Prod.snd p0) = [],
      Contract Try.prog (38 : Nat) [V.ptr (0 : Nat) (0 : Nat) (0 : Nat) (0 : Nat)] [Obj.box [I (Dv.room d), I (Dv.used d), V.val (Value.int IntKind.u32 (bif Dv.nl d then (0 : Int) else (1 : Int))), V.val (Value.int IntKind.i32 (0 : Int)), V.val (Value.int IntKind.u32 (0 : Int)), V.mref (1 : Nat), I (Dv.fuse d)], Obj.nest (Nest.mp (Dv.nl d) (mE (List.eraseIdx (Dv.fs d) i ++ [(t, { bs := Fi.bs f, sure := Fi.sure f })]))) []] (I (0 : Int)) [some (Obj.box [I (Dv.room d), I (Dv.used d), V.val (Value.int IntKind.u32 (bif Dv.nl d then (0 : Int) else (1 : Int))), V.val (Value.int IntKind.i32 (0 : Int)), V.val (Value.int IntKind.u32 (0 : Int)), V.mref (1 : Nat), I (bif decide (Dv.fuse d > (0 : Int)) then Dv.fuse d + (-1 : Int) else Dv.fuse d)]), some (Obj.nest (Nest.mp (Dv.nl d) (mE (List.eraseIdx (Dv.fs d) i ++ [(t, { bs := Fi.bs f, sure := Fi.sure f })]))) [])]] (by kernel_rfl)
    (by
      simp only [allP]
      and_intros <;> first
        | omega
        | exact cDone_ (⟨d.room, d.used, d.nl, d.fs.eraseIdx i ++ [(t, ⟨f.bs, f.sure⟩)], d.fuse⟩ : Dv) hfu
        | exact cDropN d d.nl ((mE d.fs).set i (s, .hole .undef)) t (by rw [fidx_und ha]; exact hj)
        | (rw [fidx_mE]; exact hk)
        | exact cMay0 d hf
        | exact mE_ids _
        | exact mE_at ha
        | (rw [fidx_mE]; exact hi)
        | exact mE_push _ _ _ _ _
        | exact mE_last _ _ _
        | exact mE_undef
        | exact get_undef2 ha
        | exact ids_undef ids_none
        | exact mE_era
        | (rw [fidx_und ha]; exact hi))

theorem cRenN (d : Dv) (s t : ByteArray) (i : Nat) (f : Fi) (hf : d.fuse ≠ 0) (hfu : d.fuse ≤ 9223372036854775807) (ht : (ByteArray.toList t == []) = false) (hst : (!(ByteArray.toList s == ByteArray.toList t)) = true) (hnl : d.nl = false) (hi : fat d.fs s = some i) (ha : d.fs[i]? = some (s, f)) (hj : fat d.fs t = none) (hk : fat (d.fs.eraseIdx i) t = none) : Contract Try.prog 19 [.ptr 0 0 0 0, .val (.string s), .val (.string t)] [d.box 1, d.map] (I 0) [some ((⟨d.room, d.used, d.nl, d.fs.eraseIdx i ++ [(t, ⟨f.bs, f.sure⟩)], d.fuse⟩ : Dv).went.box 1), some (⟨d.room, d.used, d.nl, d.fs.eraseIdx i ++ [(t, ⟨f.bs, f.sure⟩)], d.fuse⟩ : Dv).went.map] := by
  exact Contract.cast (by
    first
      | rfl) (by
    first
      | rfl) (cRenN_0 d s t i f hf hfu ht hst hnl hi ha hj hk )

theorem cRenT_0 (d : Dv) (s t : ByteArray) (i : Nat) (f : Fi) (j k : Nat) (g : Fi) (hf : d.fuse ≠ 0) (hfu : d.fuse ≤ 9223372036854775807) (ht : (ByteArray.toList t == []) = false) (hst : (!(ByteArray.toList s == ByteArray.toList t)) = true) (hnl : d.nl = false) (hi : fat d.fs s = some i) (ha : d.fs[i]? = some (s, f)) (hj : fat d.fs t = some j) (hg : d.fs[j]? = some (t, g)) (hij : i ≠ j) (hu : 0 ≤ d.used - g.bs.length) (hm : d.used ≤ 9223372036854775807) (hs : fat (d.fs.eraseIdx j) s = some k) (he : ∀ x, (((mE d.fs).set i x).eraseIdx j).eraseIdx k = mE ((d.fs.eraseIdx j).eraseIdx k)) (hk : fat ((d.fs.eraseIdx j).eraseIdx k) t = none) : Contract Try.prog 19 [.ptr 0 0 0 0, .val (.string s), .val (.string t)] [d.box 1, d.map] (I (0 : Int)) ([some (Obj.box [I (Dv.room d), I (Dv.used d + -Int.ofNat (List.length (Fi.bs g))), V.val (Value.int IntKind.u32 (bif Dv.nl d then (0 : Int) else (1 : Int))), V.val (Value.int IntKind.i32 (0 : Int)), V.val (Value.int IntKind.u32 (0 : Int)), V.mref (1 : Nat), I (bif decide (Dv.fuse d > (0 : Int)) then Dv.fuse d + (-1 : Int) else Dv.fuse d)]), some (Obj.nest (Nest.mp (Dv.nl d) (mE (List.eraseIdx (List.eraseIdx (Dv.fs d) j) k ++ [(t, { bs := Fi.bs f, sure := Fi.sure f })]))) [])]) :=
  vcP hmix [.reg 1 [(1, [.call [0, 1] [] (I 0) [some (d.box 1), some d.map]], none)], .reg 4 [(5, [.idx i, .inn (.box 1 (f.bs.map bR) [I f.sure]), .forgM 1 i s ((mE d.fs).set i (s, .hole .undef)) []], none)], .reg 7 [(1, [], some false)], .reg 9 [(2, [], some true)], .reg 10 [(2, [.call [0, 1] [] (.tup []) [some ((⟨d.room, d.used - g.bs.length, d.nl, (d.fs.eraseIdx j).eraseIdx k ++ [(t, ⟨f.bs, f.sure⟩)], d.fuse⟩ : Dv).box 1), some (.nest (.mp d.nl (((mE d.fs).set i (s, .hole .undef)).eraseIdx j)) [])]], none)], .reg 11 [(5, [.idx k, .beN 1 (mE ((d.fs.eraseIdx j).eraseIdx k))], none)], .reg 12 [(6, [.shutM 1 ((d.fs.eraseIdx j).eraseIdx k).length t 806000 (mE ((d.fs.eraseIdx j).eraseIdx k ++ [(t, ⟨f.bs, f.sure⟩)]))], none)], .reg 13 [(1, [.call [0, 1] [] (I 0) [some ((⟨d.room, d.used - g.bs.length, d.nl, (d.fs.eraseIdx j).eraseIdx k ++ [(t, ⟨f.bs, f.sure⟩)], d.fuse⟩ : Dv).went.box 1), some (⟨d.room, d.used - g.bs.length, d.nl, (d.fs.eraseIdx j).eraseIdx k ++ [(t, ⟨f.bs, f.sure⟩)], d.fuse⟩ : Dv).went.map]], none)]] [] [
      Contract Try.prog (34 : Nat) [V.ptr (0 : Nat) (0 : Nat) (0 : Nat) (0 : Nat)] [Obj.box [I (Dv.room d), I (Dv.used d), V.val (Value.int IntKind.u32 (bif Dv.nl d then (0 : Int) else (1 : Int))), V.val (Value.int IntKind.i32 (0 : Int)), V.val (Value.int IntKind.u32 (0 : Int)), V.mref (1 : Nat), I (Dv.fuse d)], Obj.nest (Nest.mp (Dv.nl d) (mE (Dv.fs d))) []] (I (0 : Int)) [some (Obj.box [I (Dv.room d), I (Dv.used d), V.val (Value.int IntKind.u32 (bif Dv.nl d then (0 : Int) else (1 : Int))), V.val (Value.int IntKind.i32 (0 : Int)), V.val (Value.int IntKind.u32 (0 : Int)), V.mref (1 : Nat), I (Dv.fuse d)]), some (Obj.nest (Nest.mp (Dv.nl d) (mE (Dv.fs d))) [])],
      fidx (mE (Dv.fs d)) s = some i,
      (mE (Dv.fs d))[i]? = some (s, Inn.box (1 : Nat) (List.map bR (Fi.bs f)) [I (Fi.sure f)]),
      Option.map (fun x0 => Prod.fst x0) (List.set (mE (Dv.fs d)) i (s, Inn.hole (V.ptr (806000 : Nat) (0 : Nat) (0 : Nat) (0 : Nat))))[i]? = some s,
      List.set (List.set (mE (Dv.fs d)) i (s, Inn.hole (V.ptr (806000 : Nat) (0 : Nat) (0 : Nat) (0 : Nat)))) i (s, Inn.hole V.undef) = List.set (mE (Dv.fs d)) i (s, Inn.hole V.undef),
      ∀ (p0 : ByteArray × Inn), List.Mem p0 (List.set (mE (Dv.fs d)) i (s, Inn.hole V.undef)) → ∀ (j2 : Nat), List.Mem j2 (Inn.ids (Prod.snd p0)) → List.Mem j2 [],
      (ByteArray.toList t == []) = false,
      (!ByteArray.toList s == ByteArray.toList t) = true,
      Contract Try.prog (42 : Nat) [V.ptr (0 : Nat) (0 : Nat) (0 : Nat) (0 : Nat), Sg t] [Obj.box [I (Dv.room d), I (Dv.used d), V.val (Value.int IntKind.u32 (bif Dv.nl d then (0 : Int) else (1 : Int))), V.val (Value.int IntKind.i32 (0 : Int)), V.val (Value.int IntKind.u32 (0 : Int)), V.mref (1 : Nat), I (Dv.fuse d)], Obj.nest (Nest.mp (Dv.nl d) (List.set (mE (Dv.fs d)) i (s, Inn.hole V.undef))) []] (V.tup []) [some (Obj.box [I (Dv.room d), I (Dv.used d + -Int.ofNat (List.length (Fi.bs g))), V.val (Value.int IntKind.u32 (bif Dv.nl d then (0 : Int) else (1 : Int))), V.val (Value.int IntKind.i32 (0 : Int)), V.val (Value.int IntKind.u32 (0 : Int)), V.mref (1 : Nat), I (Dv.fuse d)]), some (Obj.nest (Nest.mp (Dv.nl d) (List.eraseIdx (List.set (mE (Dv.fs d)) i (s, Inn.hole V.undef)) j)) [])],
      fidx (List.eraseIdx (List.set (mE (Dv.fs d)) i (s, Inn.hole V.undef)) j) s = some k,
      List.eraseIdx (List.eraseIdx (List.set (mE (Dv.fs d)) i (s, Inn.hole V.undef)) j) k = mE (List.eraseIdx (List.eraseIdx (Dv.fs d) j) k),
      Dv.nl d = false,
      fidx (mE (List.eraseIdx (List.eraseIdx (Dv.fs d) j) k)) t = none,
      (mE (List.eraseIdx (List.eraseIdx (Dv.fs d) j) k) ++ [(t, Inn.hole (V.ptr (806000 : Nat) (0 : Nat) (0 : Nat) (0 : Nat)))])[List.length (List.eraseIdx (List.eraseIdx (Dv.fs d) j) k)]? = some (t, Inn.hole (V.ptr (806000 : Nat) (0 : Nat) (0 : Nat) (0 : Nat))),
      List.set (mE (List.eraseIdx (List.eraseIdx (Dv.fs d) j) k) ++ [(t, Inn.hole (V.ptr (806000 : Nat) (0 : Nat) (0 : Nat) (0 : Nat)))]) (List.length (List.eraseIdx (List.eraseIdx (Dv.fs d) j) k)) (t, Inn.box (1 : Nat) (List.map bR (Fi.bs f)) [I (Fi.sure f)]) = mE (List.eraseIdx (List.eraseIdx (Dv.fs d) j) k ++ [(t, { bs := Fi.bs f, sure := Fi.sure f })]),
      ∀ (p0 : ByteArray × Inn), List.Mem p0 (mE (List.eraseIdx (List.eraseIdx (Dv.fs d) j) k ++ [(t, { bs := Fi.bs f, sure := Fi.sure f })])) → Inn.ids (Prod.snd p0) = [],
      Contract Try.prog (38 : Nat) [V.ptr (0 : Nat) (0 : Nat) (0 : Nat) (0 : Nat)] [Obj.box [I (Dv.room d), I (Dv.used d + -Int.ofNat (List.length (Fi.bs g))), V.val (Value.int IntKind.u32 (bif Dv.nl d then (0 : Int) else (1 : Int))), V.val (Value.int IntKind.i32 (0 : Int)), V.val (Value.int IntKind.u32 (0 : Int)), V.mref (1 : Nat), I (Dv.fuse d)], Obj.nest (Nest.mp (Dv.nl d) (mE (List.eraseIdx (List.eraseIdx (Dv.fs d) j) k ++ [(t, { bs := Fi.bs f, sure := Fi.sure f })]))) []] (I (0 : Int)) [some (Obj.box [I (Dv.room d), I (Dv.used d + -Int.ofNat (List.length (Fi.bs g))), V.val (Value.int IntKind.u32 (bif Dv.nl d then (0 : Int) else (1 : Int))), V.val (Value.int IntKind.i32 (0 : Int)), V.val (Value.int IntKind.u32 (0 : Int)), V.mref (1 : Nat), I (bif decide (Dv.fuse d > (0 : Int)) then Dv.fuse d + (-1 : Int) else Dv.fuse d)]), some (Obj.nest (Nest.mp (Dv.nl d) (mE (List.eraseIdx (List.eraseIdx (Dv.fs d) j) k ++ [(t, { bs := Fi.bs f, sure := Fi.sure f })]))) [])]] (by kernel_rfl)
    (by
      simp only [allP]
      and_intros <;> first
        | omega
        | exact cDone_ (⟨d.room, d.used - g.bs.length, d.nl, (d.fs.eraseIdx j).eraseIdx k ++ [(t, ⟨f.bs, f.sure⟩)], d.fuse⟩ : Dv) hfu
        | exact cDropA d d.nl ((mE d.fs).set i (s, .hole .undef)) t j g.bs g.sure (by rw [fidx_und ha]; exact hj) (get_other hij hg) hu hm (ids_undef ids_none)
        | (rw [fidx_und2 ha]; exact hs)
        | exact he _
        | (rw [fidx_mE]; exact hk)
        | exact cMay0 d hf
        | exact mE_ids _
        | exact mE_at ha
        | (rw [fidx_mE]; exact hi)
        | exact mE_push _ _ _ _ _
        | exact mE_last _ _ _
        | exact mE_undef
        | exact get_undef2 ha
        | exact ids_undef ids_none)

theorem cRenT (d : Dv) (s t : ByteArray) (i : Nat) (f : Fi) (j k : Nat) (g : Fi) (hf : d.fuse ≠ 0) (hfu : d.fuse ≤ 9223372036854775807) (ht : (ByteArray.toList t == []) = false) (hst : (!(ByteArray.toList s == ByteArray.toList t)) = true) (hnl : d.nl = false) (hi : fat d.fs s = some i) (ha : d.fs[i]? = some (s, f)) (hj : fat d.fs t = some j) (hg : d.fs[j]? = some (t, g)) (hij : i ≠ j) (hu : 0 ≤ d.used - g.bs.length) (hm : d.used ≤ 9223372036854775807) (hs : fat (d.fs.eraseIdx j) s = some k) (he : ∀ x, (((mE d.fs).set i x).eraseIdx j).eraseIdx k = mE ((d.fs.eraseIdx j).eraseIdx k)) (hk : fat ((d.fs.eraseIdx j).eraseIdx k) t = none) : Contract Try.prog 19 [.ptr 0 0 0 0, .val (.string s), .val (.string t)] [d.box 1, d.map] (I 0) [some ((⟨d.room, d.used - g.bs.length, d.nl, (d.fs.eraseIdx j).eraseIdx k ++ [(t, ⟨f.bs, f.sure⟩)], d.fuse⟩ : Dv).went.box 1), some (⟨d.room, d.used - g.bs.length, d.nl, (d.fs.eraseIdx j).eraseIdx k ++ [(t, ⟨f.bs, f.sure⟩)], d.fuse⟩ : Dv).went.map] := by
  exact Contract.cast (by
    first
      | rfl) (by
    first
      | rfl) (cRenT_0 d s t i f j k g hf hfu ht hst hnl hi ha hj hg hij hu hm hs he hk )

end Go.Proofs.Ythmhkgddohgoeaa

/- a device: Files, Crash: rounds. -/
namespace Go.Proofs.Ythmhkgddohgoeaa
open E
set_option maxRecDepth 100000
set_option linter.unusedVariables false
set_option linter.unusedSimpArgs false

def fR (p : ByteArray × Fi) : List V := [.val (.string p.1), .sl 1 (p.2.bs.map bR), I p.2.sure]
def iR (n : Int) : List V := [I n]
def fiS (d : Dv) (ns : List ByteArray) (out : Fs) (i : Nat) : SL := ⟨[(0, .ptr 0 0 0 0), (3, .own 900), (10, .sl 1 (ns.map sR)), (11, I ns.length), (12, I i)], [(0, d.box 1), (1, d.map), (900, .arr 3 (out.map fR))], [0, 1, 900, 0, 1]⟩
def caS (d : Dv) (ps : List Int) (ns : List ByteArray) (i : Nat) : SL := ⟨[(0, .ptr 0 0 0 0), (1, .sl 1 (ps.map iR)), (14, .sl 1 (ns.map sR)), (15, I ns.length), (16, I i)], [(0, d.box 1), (1, d.map)], [0, 1, 0, 1]⟩
/-- How much of a file stays. -/
def crN (f : Fi) (p : Option Int) : Int := (match p with
  | some x => if (if Int.ofNat f.bs.length + -f.sure < x then Int.ofNat f.bs.length + -f.sure else x) > 0 then (if Int.ofNat f.bs.length + -f.sure < x then Int.ofNat f.bs.length + -f.sure else x) else 0
  | none => 0) + f.sure
def crD (d : Dv) (j : Nat) (s : ByteArray) (f : Fi) (n : Int) : Dv := ⟨d.room, d.used + (n - f.bs.length), d.nl, d.fs.set j (s, ⟨f.bs.take n.toNat, n⟩), d.fuse⟩
noncomputable def fiB : Code := codeAt Try.prog 15 [true, true, true, false, true, false, false]

noncomputable def caB : Code := codeAt Try.prog 17 [true, true, true, false, false]

theorem mE_cut {fs : Fs} {i : Nat} {s : ByteArray} {c : Inn} (bs : List UInt8) (n : Int) : (((mE fs).set i (s, c)).set i (s, Inn.box 1 (bs.map bR) [I n])) = mE (fs.set i (s, ⟨bs, n⟩)) := mE_set _ _
theorem crA {f : Fi} (h0 : 0 ≤ f.sure) (h1 : f.sure ≤ f.bs.length) (hl : f.bs.length ≤ 1000000000) : IntKind.i64.wrap (Int.ofNat (f.bs.map bR).length + -f.sure) = Int.ofNat f.bs.length + -f.sure := by
  rw [List.length_map]; exact i64_small (by simp only [Int.ofNat_eq_natCast]; omega)
theorem crB {f : Fi} {n x : Int} (hc : crN f (some x) = n) (h2 : 0 ≤ n) (h3 : n ≤ f.bs.length) (hl : f.bs.length ≤ 1000000000) :
    IntKind.i64.wrap ((if (if Int.ofNat f.bs.length + -f.sure < x then Int.ofNat f.bs.length + -f.sure else x) > 0 then (if Int.ofNat f.bs.length + -f.sure < x then Int.ofNat f.bs.length + -f.sure else x) else 0) + f.sure) = n := by
  rw [show (if (if Int.ofNat f.bs.length + -f.sure < x then Int.ofNat f.bs.length + -f.sure else x) > 0 then (if Int.ofNat f.bs.length + -f.sure < x then Int.ofNat f.bs.length + -f.sure else x) else 0) + f.sure = n from hc]
  exact i64_small (by omega)
theorem crB0 {f : Fi} {n : Int} (hc : crN f none = n) (h2 : 0 ≤ n) (h3 : n ≤ f.bs.length) (hl : f.bs.length ≤ 1000000000) : IntKind.i64.wrap (0 + f.sure) = n := by
  rw [show 0 + f.sure = n from hc]; exact i64_small (by omega)
theorem crC {f : Fi} {n : Int} (h2 : 0 ≤ n) (h3 : n ≤ f.bs.length) (hl : f.bs.length ≤ 1000000000) : IntKind.i64.wrap (n + -Int.ofNat (f.bs.map bR).length) = n + -Int.ofNat f.bs.length := by
  rw [List.length_map]; exact i64_small (by simp only [Int.ofNat_eq_natCast]; omega)
theorem crE {l : Nat} {n u : Int} (h2 : 0 ≤ n) (h3 : n ≤ l) (hu : l ≤ u) (hm : u ≤ 9223372036854775807) : CellC Try.prog 37 .i64 u (u + (n + -Int.ofNat l)) [.int .i64 (n + -Int.ofNat l)] (.int .i64 (u + (n + -Int.ofNat l))) :=
  addC (i64_small (by simp only [Int.ofNat_eq_natCast]; omega))
theorem crI {f : Fi} {n : Int} (h3 : n ≤ f.bs.length) : n.toNat ≤ (f.bs.map bR).length := by rw [List.length_map]; omega
theorem fiG_0 (d : Dv) (ns : List ByteArray) (out : Fs) (s : ByteArray) (f : Fi) (i j : Nat) (hx : ns[i]? = some s) (hi : i < ns.length) (hn : ns.length ≤ 1000000000) (hj : fat d.fs s = some j) (ha : d.fs[j]? = some (s, f)) (hl : f.bs.length ≤ 1000000000) (ho : out.length ≤ 1000000000) : CodeC Try.prog 2 38 fiB (fiS d ns out i) (Ex.normal) ({ env := [((0 : Nat), V.ptr (0 : Nat) (0 : Nat) (0 : Nat) (0 : Nat)), ((3 : Nat), V.own (900 : Nat)), ((10 : Nat), V.sl (1 : Nat) (List.map sR ns)), ((11 : Nat), I (Int.ofNat (List.length ns))), ((12 : Nat), I (Int.ofNat (i + (1 : Nat))))], st := [((0 : Nat), Obj.box [I (Dv.room d), I (Dv.used d), V.val (Value.int IntKind.u32 (bif Dv.nl d then (0 : Int) else (1 : Int))), V.val (Value.int IntKind.i32 (0 : Int)), V.val (Value.int IntKind.u32 (0 : Int)), V.mref (1 : Nat), I (Dv.fuse d)]), ((1 : Nat), Obj.nest (Nest.mp (Dv.nl d) (mE (Dv.fs d))) []), ((900 : Nat), Obj.arr (3 : Nat) (List.map fR (out ++ [(s, f)])))], ids := [(0 : Nat), (1 : Nat), (900 : Nat), (0 : Nat), (1 : Nat)] }) :=
  runP hmix [.reg 5 [(0, [], some true)], .reg 6 [(1, [.row (sR s)], none)], .reg 7 [(5, [.idx j, .inn (.box 1 (f.bs.map bR) [I f.sure])], none)], .reg 8 [(6, [.call [1406001] [] (.sl 1 (f.bs.map bR)) [some (.arr 1 (f.bs.map bR))]], none), (13, [.beO ((out ++ [(s, f)]).map fR)], none)], .reg 9 [(0, [.be (I ((i + 1 : Nat) : Int)), .shutM 1 j s 1406000 (mE d.fs)], none)]] ⟨[0, 3, 10, 11, 12], [(0, 0), (1, 1), (1614000, 900)], []⟩ [
      decide (Int.ofNat i < Int.ofNat (List.length ns)) = true,
      (0 : Int) ≤ Int.ofNat i,
      Int.ofNat i < Int.ofNat (List.length (List.map sR ns)),
      (List.map sR ns)[i]? = some (sR s),
      fidx (mE (Dv.fs d)) s = some j,
      (mE (Dv.fs d))[j]? = some (s, Inn.box (1 : Nat) (List.map bR (Fi.bs f)) [I (Fi.sure f)]),
      Contract Try.prog (41 : Nat) [V.own (0 : Nat)] [Obj.arr (1 : Nat) (List.map bR (Fi.bs f))] (V.sl (1 : Nat) (List.map bR (Fi.bs f))) [some (Obj.arr (1 : Nat) (List.map bR (Fi.bs f)))],
      (List.length (List.map fR out) + (1 : Nat)) * (48 : Nat) ≤ (140737488355328 : Nat),
      List.map fR out ++ [[Sg s, V.sl (1 : Nat) (List.map bR (Fi.bs f)), I (Fi.sure f)]] = List.map fR (out ++ [(s, f)]),
      IntKind.wrap IntKind.i64 (Int.ofNat (i + (1 : Nat))) = Int.ofNat (i + (1 : Nat)),
      (List.set (mE (Dv.fs d)) j (s, Inn.hole (V.ptr (1406000 : Nat) (0 : Nat) (0 : Nat) (0 : Nat))))[j]? = some (s, Inn.hole (V.ptr (1406000 : Nat) (0 : Nat) (0 : Nat) (0 : Nat))),
      List.set (List.set (mE (Dv.fs d)) j (s, Inn.hole (V.ptr (1406000 : Nat) (0 : Nat) (0 : Nat) (0 : Nat)))) j (s, Inn.box (1 : Nat) (List.map bR (Fi.bs f)) [I (Fi.sure f)]) = mE (Dv.fs d),
      ∀ (p0 : ByteArray × Inn), List.Mem p0 (mE (Dv.fs d)) → Inn.ids (Prod.snd p0) = []] (by kernel_rfl)
    (by
      simp only [allP]
      and_intros <;> first
        | exact cClone _ hl
        | (rw [fidx_mE]; exact hj)
        | exact mE_at ha
        | exact mE_get ha
        | exact mE_setback ha
        | exact mE_ids _
        | (rw [List.map_append]; rfl)
        | (simp [hx]; done)
        | exact i64_small (by simp; omega)
        | (simp; omega))

theorem fiG (d : Dv) (ns : List ByteArray) (out : Fs) (s : ByteArray) (f : Fi) (i j : Nat) (hx : ns[i]? = some s) (hi : i < ns.length) (hn : ns.length ≤ 1000000000) (hj : fat d.fs s = some j) (ha : d.fs[j]? = some (s, f)) (hl : f.bs.length ≤ 1000000000) (ho : out.length ≤ 1000000000)  : CodeC Try.prog 2 38 fiB (fiS d ns out i) .normal (fiS d ns (out ++ [(s, f)]) (i + 1)) := by
  exact CodeC.cast (by
    first
      | rfl) (fiG_0 d ns out s f i j hx hi hn hj ha hl ho )

theorem fiE_0 (d : Dv) (ns : List ByteArray) (out : Fs) (i : Nat) (h : ns.length ≤ i) : CodeC Try.prog 2 38 fiB (fiS d ns out i) (Ex.exit (0 : Nat)) ({ env := [((0 : Nat), V.ptr (0 : Nat) (0 : Nat) (0 : Nat) (0 : Nat)), ((3 : Nat), V.own (900 : Nat)), ((10 : Nat), V.sl (1 : Nat) (List.map sR ns)), ((11 : Nat), I (Int.ofNat (List.length ns))), ((12 : Nat), I (Int.ofNat i))], st := [((0 : Nat), Obj.box [I (Dv.room d), I (Dv.used d), V.val (Value.int IntKind.u32 (bif Dv.nl d then (0 : Int) else (1 : Int))), V.val (Value.int IntKind.i32 (0 : Int)), V.val (Value.int IntKind.u32 (0 : Int)), V.mref (1 : Nat), I (Dv.fuse d)]), ((1 : Nat), Obj.nest (Nest.mp (Dv.nl d) (mE (Dv.fs d))) []), ((900 : Nat), Obj.arr (3 : Nat) (List.map fR out))], ids := [(0 : Nat), (1 : Nat), (900 : Nat), (0 : Nat), (1 : Nat)] }) :=
  runP hmix [.reg 5 [(0, [], some false)]] ⟨[0, 3, 10, 11, 12], [(0, 0), (1, 1), (900, 900)], []⟩ [
      decide (Int.ofNat i < Int.ofNat (List.length ns)) = false] (by kernel_rfl)
    (by
      simp only [allP]
      and_intros <;> first
        | (simp; omega))

theorem fiE (d : Dv) (ns : List ByteArray) (out : Fs) (i : Nat) (h : ns.length ≤ i)  : CodeC Try.prog 2 38 fiB (fiS d ns out i) (.exit 0) (fiS d ns out i) := by
  exact CodeC.cast (by
    first
      | rfl) (fiE_0 d ns out i h )

theorem caG_0 (d : Dv) (ps : List Int) (ns : List ByteArray) (s : ByteArray) (f : Fi) (i j : Nat) (n x : Int) (hx : ns[i]? = some s) (hi : i < ns.length) (hn : ns.length ≤ 1000000000) (hj : fat d.fs s = some j) (ha : d.fs[j]? = some (s, f)) (hl : f.bs.length ≤ 1000000000) (h0 : 0 ≤ f.sure) (h1 : f.sure ≤ f.bs.length) (hu : f.bs.length ≤ d.used) (hm : d.used ≤ 9223372036854775807) (h2 : 0 ≤ n) (h3 : n ≤ f.bs.length) (hp : ps[i]? = some x) (hpl : i < ps.length) (hc : crN f (some x) = n) : CodeC Try.prog 2 79 caB (caS d ps ns i) (Ex.normal) ({ env := [((0 : Nat), V.ptr (0 : Nat) (0 : Nat) (0 : Nat) (0 : Nat)), ((1 : Nat), V.sl (1 : Nat) (List.map iR ps)), ((14 : Nat), V.sl (1 : Nat) (List.map sR ns)), ((15 : Nat), I (Int.ofNat (List.length ns))), ((16 : Nat), I (Int.ofNat (i + (1 : Nat))))], st := [((0 : Nat), Obj.box [I (Dv.room d), I (Dv.used d + (n + -Int.ofNat (List.length (Fi.bs f)))), V.val (Value.int IntKind.u32 (bif Dv.nl d then (0 : Int) else (1 : Int))), V.val (Value.int IntKind.i32 (0 : Int)), V.val (Value.int IntKind.u32 (0 : Int)), V.mref (1 : Nat), I (Dv.fuse d)]), ((1 : Nat), Obj.nest (Nest.mp (Dv.nl d) (mE (List.set (Dv.fs d) j (s, { bs := List.take (Int.toNat n) (Fi.bs f), sure := n })))) [])], ids := [(0 : Nat), (1 : Nat), (0 : Nat), (1 : Nat)] }) :=
  runP hmix [.reg 3 [(0, [], some true)], .reg 4 [(2, [.row (sR s)], none)], .reg 5 [(5, [.idx j, .inn (.box 1 (f.bs.map bR) [I f.sure])], none)], .reg 7 [(3, [], some true)], .reg 8 [(3, [.row (iR x)], none), (13, [.be (I (f.bs.length - f.sure))], none)], .reg 9 [(5, [.be (I n)], none)], .reg 10 [(9, [.be (I (n - f.bs.length))], none), (10, [.cellc .i64 (d.used + (n - f.bs.length)) (.int .i64 (d.used + (n - f.bs.length)))], none)], .reg 11 [(8, [.idx 2, .beO ((f.bs.take n.toNat).map bR)], none), (15, [.shutM 1 j s 1006000 (mE (d.fs.set j (s, ⟨f.bs.take n.toNat, n⟩)))], none)], .reg 12 [(0, [.be (I ((i + 1 : Nat) : Int))], none)]] ⟨[0, 1, 14, 15, 16], [(0, 0), (1, 1)], []⟩ [
      decide (Int.ofNat i < Int.ofNat (List.length ns)) = true,
      (0 : Int) ≤ Int.ofNat i,
      Int.ofNat i < Int.ofNat (List.length (List.map sR ns)),
      (List.map sR ns)[i]? = some (sR s),
      fidx (mE (Dv.fs d)) s = some j,
      (mE (Dv.fs d))[j]? = some (s, Inn.box (1 : Nat) (List.map bR (Fi.bs f)) [I (Fi.sure f)]),
      decide (Int.ofNat i < Int.ofNat (List.length (List.map iR ps))) = true,
      (0 : Int) ≤ Int.ofNat i,
      Int.ofNat i < Int.ofNat (List.length (List.map iR ps)),
      (List.map iR ps)[i]? = some (iR x),
      IntKind.wrap IntKind.i64 (Int.ofNat (List.length (List.map bR (Fi.bs f))) + -Fi.sure f) = Int.ofNat (List.length (Fi.bs f)) + -Fi.sure f,
      IntKind.wrap IntKind.i64 ((if (if Int.ofNat (List.length (Fi.bs f)) + -Fi.sure f < x then Int.ofNat (List.length (Fi.bs f)) + -Fi.sure f else x) > (0 : Int) then if Int.ofNat (List.length (Fi.bs f)) + -Fi.sure f < x then Int.ofNat (List.length (Fi.bs f)) + -Fi.sure f else x else (0 : Int)) + Fi.sure f) = n,
      IntKind.wrap IntKind.i64 (n + -Int.ofNat (List.length (List.map bR (Fi.bs f)))) = n + -Int.ofNat (List.length (Fi.bs f)),
      CellC Try.prog (37 : Nat) IntKind.i64 (Dv.used d) (Dv.used d + (n + -Int.ofNat (List.length (Fi.bs f)))) [Value.int IntKind.i64 (n + -Int.ofNat (List.length (Fi.bs f)))] (Value.int IntKind.i64 (Dv.used d + (n + -Int.ofNat (List.length (Fi.bs f))))),
      (0 : Int) ≤ n,
      n = n,
      Int.toNat n ≤ List.length (List.map bR (Fi.bs f)),
      List.take (Int.toNat n) (List.map bR (Fi.bs f)) = List.map bR (List.take (Int.toNat n) (Fi.bs f)),
      (List.set (mE (Dv.fs d)) j (s, Inn.hole (V.ptr (1006000 : Nat) (0 : Nat) (0 : Nat) (0 : Nat))))[j]? = some (s, Inn.hole (V.ptr (1006000 : Nat) (0 : Nat) (0 : Nat) (0 : Nat))),
      List.set (List.set (mE (Dv.fs d)) j (s, Inn.hole (V.ptr (1006000 : Nat) (0 : Nat) (0 : Nat) (0 : Nat)))) j (s, Inn.box (1 : Nat) (List.map bR (List.take (Int.toNat n) (Fi.bs f))) [I n]) = mE (List.set (Dv.fs d) j (s, { bs := List.take (Int.toNat n) (Fi.bs f), sure := n })),
      ∀ (p0 : ByteArray × Inn), List.Mem p0 (mE (List.set (Dv.fs d) j (s, { bs := List.take (Int.toNat n) (Fi.bs f), sure := n }))) → Inn.ids (Prod.snd p0) = [],
      IntKind.wrap IntKind.i64 (Int.ofNat (i + (1 : Nat))) = Int.ofNat (i + (1 : Nat))] (by kernel_rfl)
    (by
      simp only [allP]
      and_intros <;> first
        | omega
        | (rw [fidx_mE]; exact hj)
        | exact mE_at ha
        | exact mE_get ha
        | exact mE_cut _ _
        | exact mE_ids _
        | (simp [hp]; done)
        | (simp [hx]; done)
        | exact crA h0 h1 hl
        | exact crB hc h2 h3 hl
        | exact crC h2 h3 hl
        | exact crE h2 h3 hu hm
        | exact crI h3
        | exact i64_small (by simp; omega)
        | (simp; omega))

theorem caG (d : Dv) (ps : List Int) (ns : List ByteArray) (s : ByteArray) (f : Fi) (i j : Nat) (n x : Int) (hx : ns[i]? = some s) (hi : i < ns.length) (hn : ns.length ≤ 1000000000) (hj : fat d.fs s = some j) (ha : d.fs[j]? = some (s, f)) (hl : f.bs.length ≤ 1000000000) (h0 : 0 ≤ f.sure) (h1 : f.sure ≤ f.bs.length) (hu : f.bs.length ≤ d.used) (hm : d.used ≤ 9223372036854775807) (h2 : 0 ≤ n) (h3 : n ≤ f.bs.length) (hp : ps[i]? = some x) (hpl : i < ps.length) (hc : crN f (some x) = n)  : CodeC Try.prog 2 79 caB (caS d ps ns i) .normal (caS (crD d j s f n) ps ns (i + 1)) := by
  exact CodeC.cast (by
    first
      | rfl) (caG_0 d ps ns s f i j n x hx hi hn hj ha hl h0 h1 hu hm h2 h3 hp hpl hc )

theorem caN_0 (d : Dv) (ps : List Int) (ns : List ByteArray) (s : ByteArray) (f : Fi) (i j : Nat) (n : Int) (hx : ns[i]? = some s) (hi : i < ns.length) (hn : ns.length ≤ 1000000000) (hj : fat d.fs s = some j) (ha : d.fs[j]? = some (s, f)) (hl : f.bs.length ≤ 1000000000) (h0 : 0 ≤ f.sure) (h1 : f.sure ≤ f.bs.length) (hu : f.bs.length ≤ d.used) (hm : d.used ≤ 9223372036854775807) (h2 : 0 ≤ n) (h3 : n ≤ f.bs.length) (hpl : ps.length ≤ i) (hc : crN f none = n) : CodeC Try.prog 2 79 caB (caS d ps ns i) (Ex.normal) ({ env := [((0 : Nat), V.ptr (0 : Nat) (0 : Nat) (0 : Nat) (0 : Nat)), ((1 : Nat), V.sl (1 : Nat) (List.map iR ps)), ((14 : Nat), V.sl (1 : Nat) (List.map sR ns)), ((15 : Nat), I (Int.ofNat (List.length ns))), ((16 : Nat), I (Int.ofNat (i + (1 : Nat))))], st := [((0 : Nat), Obj.box [I (Dv.room d), I (Dv.used d + (n + -Int.ofNat (List.length (Fi.bs f)))), V.val (Value.int IntKind.u32 (bif Dv.nl d then (0 : Int) else (1 : Int))), V.val (Value.int IntKind.i32 (0 : Int)), V.val (Value.int IntKind.u32 (0 : Int)), V.mref (1 : Nat), I (Dv.fuse d)]), ((1 : Nat), Obj.nest (Nest.mp (Dv.nl d) (mE (List.set (Dv.fs d) j (s, { bs := List.take (Int.toNat n) (Fi.bs f), sure := n })))) [])], ids := [(0 : Nat), (1 : Nat), (0 : Nat), (1 : Nat)] }) :=
  runP hmix [.reg 3 [(0, [], some true)], .reg 4 [(2, [.row (sR s)], none)], .reg 5 [(5, [.idx j, .inn (.box 1 (f.bs.map bR) [I f.sure])], none)], .reg 7 [(3, [], some false)], .reg 9 [(5, [.be (I n)], none)], .reg 10 [(9, [.be (I (n - f.bs.length))], none), (10, [.cellc .i64 (d.used + (n - f.bs.length)) (.int .i64 (d.used + (n - f.bs.length)))], none)], .reg 11 [(8, [.idx 2, .beO ((f.bs.take n.toNat).map bR)], none), (15, [.shutM 1 j s 1006000 (mE (d.fs.set j (s, ⟨f.bs.take n.toNat, n⟩)))], none)], .reg 12 [(0, [.be (I ((i + 1 : Nat) : Int))], none)]] ⟨[0, 1, 14, 15, 16], [(0, 0), (1, 1)], []⟩ [
      decide (Int.ofNat i < Int.ofNat (List.length ns)) = true,
      (0 : Int) ≤ Int.ofNat i,
      Int.ofNat i < Int.ofNat (List.length (List.map sR ns)),
      (List.map sR ns)[i]? = some (sR s),
      fidx (mE (Dv.fs d)) s = some j,
      (mE (Dv.fs d))[j]? = some (s, Inn.box (1 : Nat) (List.map bR (Fi.bs f)) [I (Fi.sure f)]),
      decide (Int.ofNat i < Int.ofNat (List.length (List.map iR ps))) = false,
      IntKind.wrap IntKind.i64 ((0 : Int) + Fi.sure f) = n,
      IntKind.wrap IntKind.i64 (n + -Int.ofNat (List.length (List.map bR (Fi.bs f)))) = n + -Int.ofNat (List.length (Fi.bs f)),
      CellC Try.prog (37 : Nat) IntKind.i64 (Dv.used d) (Dv.used d + (n + -Int.ofNat (List.length (Fi.bs f)))) [Value.int IntKind.i64 (n + -Int.ofNat (List.length (Fi.bs f)))] (Value.int IntKind.i64 (Dv.used d + (n + -Int.ofNat (List.length (Fi.bs f))))),
      (0 : Int) ≤ n,
      n = n,
      Int.toNat n ≤ List.length (List.map bR (Fi.bs f)),
      List.take (Int.toNat n) (List.map bR (Fi.bs f)) = List.map bR (List.take (Int.toNat n) (Fi.bs f)),
      (List.set (mE (Dv.fs d)) j (s, Inn.hole (V.ptr (1006000 : Nat) (0 : Nat) (0 : Nat) (0 : Nat))))[j]? = some (s, Inn.hole (V.ptr (1006000 : Nat) (0 : Nat) (0 : Nat) (0 : Nat))),
      List.set (List.set (mE (Dv.fs d)) j (s, Inn.hole (V.ptr (1006000 : Nat) (0 : Nat) (0 : Nat) (0 : Nat)))) j (s, Inn.box (1 : Nat) (List.map bR (List.take (Int.toNat n) (Fi.bs f))) [I n]) = mE (List.set (Dv.fs d) j (s, { bs := List.take (Int.toNat n) (Fi.bs f), sure := n })),
      ∀ (p0 : ByteArray × Inn), List.Mem p0 (mE (List.set (Dv.fs d) j (s, { bs := List.take (Int.toNat n) (Fi.bs f), sure := n }))) → Inn.ids (Prod.snd p0) = [],
      IntKind.wrap IntKind.i64 (Int.ofNat (i + (1 : Nat))) = Int.ofNat (i + (1 : Nat))] (by kernel_rfl)
    (by
      simp only [allP]
      and_intros <;> first
        | omega
        | (rw [fidx_mE]; exact hj)
        | exact mE_at ha
        | exact mE_get ha
        | exact mE_cut _ _
        | exact mE_ids _
        | (simp [hx]; done)
        | exact crB0 hc h2 h3 hl
        | exact crC h2 h3 hl
        | exact crE h2 h3 hu hm
        | exact crI h3
        | exact i64_small (by simp; omega)
        | (simp; omega))

theorem caN (d : Dv) (ps : List Int) (ns : List ByteArray) (s : ByteArray) (f : Fi) (i j : Nat) (n : Int) (hx : ns[i]? = some s) (hi : i < ns.length) (hn : ns.length ≤ 1000000000) (hj : fat d.fs s = some j) (ha : d.fs[j]? = some (s, f)) (hl : f.bs.length ≤ 1000000000) (h0 : 0 ≤ f.sure) (h1 : f.sure ≤ f.bs.length) (hu : f.bs.length ≤ d.used) (hm : d.used ≤ 9223372036854775807) (h2 : 0 ≤ n) (h3 : n ≤ f.bs.length) (hpl : ps.length ≤ i) (hc : crN f none = n)  : CodeC Try.prog 2 79 caB (caS d ps ns i) .normal (caS (crD d j s f n) ps ns (i + 1)) := by
  exact CodeC.cast (by
    first
      | rfl) (caN_0 d ps ns s f i j n hx hi hn hj ha hl h0 h1 hu hm h2 h3 hpl hc )

theorem caE_0 (d : Dv) (ps : List Int) (ns : List ByteArray) (i : Nat) (h : ns.length ≤ i) : CodeC Try.prog 2 79 caB (caS d ps ns i) (Ex.exit (0 : Nat)) ({ env := [((0 : Nat), V.ptr (0 : Nat) (0 : Nat) (0 : Nat) (0 : Nat)), ((1 : Nat), V.sl (1 : Nat) (List.map iR ps)), ((14 : Nat), V.sl (1 : Nat) (List.map sR ns)), ((15 : Nat), I (Int.ofNat (List.length ns))), ((16 : Nat), I (Int.ofNat i))], st := [((0 : Nat), Obj.box [I (Dv.room d), I (Dv.used d), V.val (Value.int IntKind.u32 (bif Dv.nl d then (0 : Int) else (1 : Int))), V.val (Value.int IntKind.i32 (0 : Int)), V.val (Value.int IntKind.u32 (0 : Int)), V.mref (1 : Nat), I (Dv.fuse d)]), ((1 : Nat), Obj.nest (Nest.mp (Dv.nl d) (mE (Dv.fs d))) [])], ids := [(0 : Nat), (1 : Nat), (0 : Nat), (1 : Nat)] }) :=
  runP hmix [.reg 3 [(0, [], some false)]] ⟨[0, 1, 14, 15, 16], [(0, 0), (1, 1)], []⟩ [
      decide (Int.ofNat i < Int.ofNat (List.length ns)) = false] (by kernel_rfl)
    (by
      simp only [allP]
      and_intros <;> first
        | (simp; omega))

theorem caE (d : Dv) (ps : List Int) (ns : List ByteArray) (i : Nat) (h : ns.length ≤ i)  : CodeC Try.prog 2 79 caB (caS d ps ns i) (.exit 0) (caS d ps ns i) := by
  exact CodeC.cast (by
    first
      | rfl) (caE_0 d ps ns i h )

end Go.Proofs.Ythmhkgddohgoeaa

/- a device: Files, Crash. -/
namespace Go.Proofs.Ythmhkgddohgoeaa
open E
set_option maxRecDepth 100000
set_option linter.unusedVariables false
set_option linter.unusedSimpArgs false

theorem cFilesA_0 (d : Dv) (ns : List ByteArray) (out : Fs) (hN : Contract Try.prog 40 [.ptr 0 0 0 0] [d.box 1, d.map] (.sl 1 (ns.map sR)) [some (d.box 1), some d.map]) (hL : LoopC Try.prog 2 38 fiB (fiS d ns [] 0) (.exit 0) (fiS d ns out ns.length)) : Contract Try.prog 15 [.ptr 0 0 0 0] [d.box 1, d.map] (V.sl (3 : Nat) (List.map fR out)) ([some (Obj.box [I (Dv.room d), I (Dv.used d), V.val (Value.int IntKind.u32 (bif Dv.nl d then (0 : Int) else (1 : Int))), V.val (Value.int IntKind.i32 (0 : Int)), V.val (Value.int IntKind.u32 (0 : Int)), V.mref (1 : Nat), I (Dv.fuse d)]), some (Obj.nest (Nest.mp (Dv.nl d) (mE (Dv.fs d))) [])]) :=
  vcP hmix [.reg 3 [(0, [.idx 3], none)], .reg 4 [(1, [.call [0, 1] [] (.sl 1 (ns.map sR)) [some (d.box 1), some d.map]], none)], .cut ⟨[0, 3, 10, 11, 12], [(0, 0), (1, 1), (601000, 900)], []⟩ (.exit 0) (fiS d ns out ns.length), .reg 10 [(1, [.idx 1], none)]] [] [
      Contract Try.prog (40 : Nat) [V.ptr (0 : Nat) (0 : Nat) (0 : Nat) (0 : Nat)] [Obj.box [I (Dv.room d), I (Dv.used d), V.val (Value.int IntKind.u32 (bif Dv.nl d then (0 : Int) else (1 : Int))), V.val (Value.int IntKind.i32 (0 : Int)), V.val (Value.int IntKind.u32 (0 : Int)), V.mref (1 : Nat), I (Dv.fuse d)], Obj.nest (Nest.mp (Dv.nl d) (mE (Dv.fs d))) []] (V.sl (1 : Nat) (List.map sR ns)) [some (Obj.box [I (Dv.room d), I (Dv.used d), V.val (Value.int IntKind.u32 (bif Dv.nl d then (0 : Int) else (1 : Int))), V.val (Value.int IntKind.i32 (0 : Int)), V.val (Value.int IntKind.u32 (0 : Int)), V.mref (1 : Nat), I (Dv.fuse d)]), some (Obj.nest (Nest.mp (Dv.nl d) (mE (Dv.fs d))) [])],
      LoopC Try.prog (2 : Nat) (38 : Nat) fiB { env := [((0 : Nat), V.ptr (0 : Nat) (0 : Nat) (0 : Nat) (0 : Nat)), ((3 : Nat), V.own (900 : Nat)), ((10 : Nat), V.sl (1 : Nat) (List.map sR ns)), ((11 : Nat), I (Int.ofNat (List.length (List.map sR ns)))), ((12 : Nat), I (0 : Int))], st := [((0 : Nat), Obj.box [I (Dv.room d), I (Dv.used d), V.val (Value.int IntKind.u32 (bif Dv.nl d then (0 : Int) else (1 : Int))), V.val (Value.int IntKind.i32 (0 : Int)), V.val (Value.int IntKind.u32 (0 : Int)), V.mref (1 : Nat), I (Dv.fuse d)]), ((1 : Nat), Obj.nest (Nest.mp (Dv.nl d) (mE (Dv.fs d))) []), ((900 : Nat), Obj.arr (3 : Nat) [])], ids := [(0 : Nat), (1 : Nat), (900 : Nat), (0 : Nat), (1 : Nat)] } (Ex.exit (0 : Nat)) { env := [((0 : Nat), V.ptr (0 : Nat) (0 : Nat) (0 : Nat) (0 : Nat)), ((3 : Nat), V.own (900 : Nat)), ((10 : Nat), V.sl (1 : Nat) (List.map sR ns)), ((11 : Nat), I (Int.ofNat (List.length ns))), ((12 : Nat), I (Int.ofNat (List.length ns)))], st := [((0 : Nat), Obj.box [I (Dv.room d), I (Dv.used d), V.val (Value.int IntKind.u32 (bif Dv.nl d then (0 : Int) else (1 : Int))), V.val (Value.int IntKind.i32 (0 : Int)), V.val (Value.int IntKind.u32 (0 : Int)), V.mref (1 : Nat), I (Dv.fuse d)]), ((1 : Nat), Obj.nest (Nest.mp (Dv.nl d) (mE (Dv.fs d))) []), ((900 : Nat), Obj.arr (3 : Nat) (List.map fR out))], ids := [(0 : Nat), (1 : Nat), (900 : Nat), (0 : Nat), (1 : Nat)] }] (by kernel_rfl)
    (by
      simp only [allP]
      and_intros <;> first
        | (rw [List.length_map]; exact hL)
        | exact hN)

theorem cFilesA (d : Dv) (ns : List ByteArray) (out : Fs) (hN : Contract Try.prog 40 [.ptr 0 0 0 0] [d.box 1, d.map] (.sl 1 (ns.map sR)) [some (d.box 1), some d.map]) (hL : LoopC Try.prog 2 38 fiB (fiS d ns [] 0) (.exit 0) (fiS d ns out ns.length)) : Contract Try.prog 15 [.ptr 0 0 0 0] [d.box 1, d.map] (.sl 3 (out.map fR)) [some (d.box 1), some d.map] := by
  exact Contract.cast (by
    first
      | rfl) (by
    first
      | rfl) (cFilesA_0 d ns out hN hL )

theorem cCrashA_0 (d dd : Dv) (ps : List Int) (ns : List ByteArray) (hN : Contract Try.prog 40 [.ptr 0 0 0 0] [(⟨d.room, d.used, d.nl, d.fs, -1⟩ : Dv).box 1, (⟨d.room, d.used, d.nl, d.fs, -1⟩ : Dv).map] (.sl 1 (ns.map sR)) [some ((⟨d.room, d.used, d.nl, d.fs, -1⟩ : Dv).box 1), some (⟨d.room, d.used, d.nl, d.fs, -1⟩ : Dv).map]) (hL : LoopC Try.prog 2 79 caB (caS (⟨d.room, d.used, d.nl, d.fs, -1⟩ : Dv) ps ns 0) (.exit 0) (caS dd ps ns ns.length)) : Contract Try.prog 17 [.ptr 0 0 0 0, .sl 1 (ps.map iR)] [d.box 1, d.map] (V.tup []) ([some (Obj.box [I (Dv.room dd), I (Dv.used dd), V.val (Value.int IntKind.u32 (bif Dv.nl dd then (0 : Int) else (1 : Int))), V.val (Value.int IntKind.i32 (0 : Int)), V.val (Value.int IntKind.u32 (0 : Int)), V.mref (1 : Nat), I (Dv.fuse dd)]), some (Obj.nest (Nest.mp (Dv.nl dd) (mE (Dv.fs dd))) [])]) :=
  vcP hmix [.reg 2 [(1, [.call [0, 1] [] (.sl 1 (ns.map sR)) [some ((⟨d.room, d.used, d.nl, d.fs, -1⟩ : Dv).box 1), some (⟨d.room, d.used, d.nl, d.fs, -1⟩ : Dv).map]], none)], .cut ⟨[0, 1, 14, 15, 16], [(0, 0), (1, 1)], []⟩ (.exit 0) (caS dd ps ns ns.length)] [] [
      Contract Try.prog (40 : Nat) [V.ptr (0 : Nat) (0 : Nat) (0 : Nat) (0 : Nat)] [Obj.box [I (Dv.room d), I (Dv.used d), V.val (Value.int IntKind.u32 (bif Dv.nl d then (0 : Int) else (1 : Int))), V.val (Value.int IntKind.i32 (0 : Int)), V.val (Value.int IntKind.u32 (0 : Int)), V.mref (1 : Nat), I (-1 : Int)], Obj.nest (Nest.mp (Dv.nl d) (mE (Dv.fs d))) []] (V.sl (1 : Nat) (List.map sR ns)) [some (Obj.box [I (Dv.room d), I (Dv.used d), V.val (Value.int IntKind.u32 (bif Dv.nl d then (0 : Int) else (1 : Int))), V.val (Value.int IntKind.i32 (0 : Int)), V.val (Value.int IntKind.u32 (0 : Int)), V.mref (1 : Nat), I (-1 : Int)]), some (Obj.nest (Nest.mp (Dv.nl d) (mE (Dv.fs d))) [])],
      LoopC Try.prog (2 : Nat) (79 : Nat) caB { env := [((0 : Nat), V.ptr (0 : Nat) (0 : Nat) (0 : Nat) (0 : Nat)), ((1 : Nat), V.sl (1 : Nat) (List.map iR ps)), ((14 : Nat), V.sl (1 : Nat) (List.map sR ns)), ((15 : Nat), I (Int.ofNat (List.length (List.map sR ns)))), ((16 : Nat), I (0 : Int))], st := [((0 : Nat), Obj.box [I (Dv.room d), I (Dv.used d), V.val (Value.int IntKind.u32 (bif Dv.nl d then (0 : Int) else (1 : Int))), V.val (Value.int IntKind.i32 (0 : Int)), V.val (Value.int IntKind.u32 (0 : Int)), V.mref (1 : Nat), I (-1 : Int)]), ((1 : Nat), Obj.nest (Nest.mp (Dv.nl d) (mE (Dv.fs d))) [])], ids := [(0 : Nat), (1 : Nat), (0 : Nat), (1 : Nat)] } (Ex.exit (0 : Nat)) { env := [((0 : Nat), V.ptr (0 : Nat) (0 : Nat) (0 : Nat) (0 : Nat)), ((1 : Nat), V.sl (1 : Nat) (List.map iR ps)), ((14 : Nat), V.sl (1 : Nat) (List.map sR ns)), ((15 : Nat), I (Int.ofNat (List.length ns))), ((16 : Nat), I (Int.ofNat (List.length ns)))], st := [((0 : Nat), Obj.box [I (Dv.room dd), I (Dv.used dd), V.val (Value.int IntKind.u32 (bif Dv.nl dd then (0 : Int) else (1 : Int))), V.val (Value.int IntKind.i32 (0 : Int)), V.val (Value.int IntKind.u32 (0 : Int)), V.mref (1 : Nat), I (Dv.fuse dd)]), ((1 : Nat), Obj.nest (Nest.mp (Dv.nl dd) (mE (Dv.fs dd))) [])], ids := [(0 : Nat), (1 : Nat), (0 : Nat), (1 : Nat)] }] (by kernel_rfl)
    (by
      simp only [allP]
      and_intros <;> first
        | (rw [List.length_map]; exact hL)
        | exact hN)

theorem cCrashA (d dd : Dv) (ps : List Int) (ns : List ByteArray) (hN : Contract Try.prog 40 [.ptr 0 0 0 0] [(⟨d.room, d.used, d.nl, d.fs, -1⟩ : Dv).box 1, (⟨d.room, d.used, d.nl, d.fs, -1⟩ : Dv).map] (.sl 1 (ns.map sR)) [some ((⟨d.room, d.used, d.nl, d.fs, -1⟩ : Dv).box 1), some (⟨d.room, d.used, d.nl, d.fs, -1⟩ : Dv).map]) (hL : LoopC Try.prog 2 79 caB (caS (⟨d.room, d.used, d.nl, d.fs, -1⟩ : Dv) ps ns 0) (.exit 0) (caS dd ps ns ns.length)) : Contract Try.prog 17 [.ptr 0 0 0 0, .sl 1 (ps.map iR)] [d.box 1, d.map] (.tup []) [some (dd.box 1), some dd.map] := by
  exact Contract.cast (by
    first
      | rfl) (by
    first
      | rfl) (cCrashA_0 d dd ps ns hN hL )

theorem cApp5_0 (d : Dv) (s : ByteArray) (b : List UInt8) (hf : d.fuse = 0) : Contract Try.prog 10 [.ptr 0 0 0 0, .val (.string s), .sl 1 (b.map bR)] [d.box 1, d.map] (I (5 : Int)) ([some (Obj.box [I (Dv.room d), I (Dv.used d), V.val (Value.int IntKind.u32 (bif Dv.nl d then (0 : Int) else (1 : Int))), V.val (Value.int IntKind.i32 (0 : Int)), V.val (Value.int IntKind.u32 (0 : Int)), V.mref (1 : Nat), I (Dv.fuse d)]), some (Obj.nest (Nest.mp (Dv.nl d) (mE (Dv.fs d))) [])]) :=
  vcP hmix [.reg 1 [(1, [.call [0, 1] [] (I 5) [some (d.box 1), some d.map]], none)]] [] [
      Contract Try.prog (34 : Nat) [V.ptr (0 : Nat) (0 : Nat) (0 : Nat) (0 : Nat)] [Obj.box [I (Dv.room d), I (Dv.used d), V.val (Value.int IntKind.u32 (bif Dv.nl d then (0 : Int) else (1 : Int))), V.val (Value.int IntKind.i32 (0 : Int)), V.val (Value.int IntKind.u32 (0 : Int)), V.mref (1 : Nat), I (Dv.fuse d)], Obj.nest (Nest.mp (Dv.nl d) (mE (Dv.fs d))) []] (I (5 : Int)) [some (Obj.box [I (Dv.room d), I (Dv.used d), V.val (Value.int IntKind.u32 (bif Dv.nl d then (0 : Int) else (1 : Int))), V.val (Value.int IntKind.i32 (0 : Int)), V.val (Value.int IntKind.u32 (0 : Int)), V.mref (1 : Nat), I (Dv.fuse d)]), some (Obj.nest (Nest.mp (Dv.nl d) (mE (Dv.fs d))) [])]] (by kernel_rfl)
    (by
      simp only [allP]
      and_intros <;> first
        | exact cMay5 d hf)

theorem cApp5 (d : Dv) (s : ByteArray) (b : List UInt8) (hf : d.fuse = 0) : Contract Try.prog 10 [.ptr 0 0 0 0, .val (.string s), .sl 1 (b.map bR)] [d.box 1, d.map] (I 5) [some (d.box 1), some d.map] := by
  exact Contract.cast (by
    first
      | rfl) (by
    first
      | rfl) (cApp5_0 d s b hf )

theorem cApp1_0 (d : Dv) (s : ByteArray) (b : List UInt8) (hf : d.fuse ≠ 0) (hs : (ByteArray.toList s == []) = true) : Contract Try.prog 10 [.ptr 0 0 0 0, .val (.string s), .sl 1 (b.map bR)] [d.box 1, d.map] (I (1 : Int)) ([some (Obj.box [I (Dv.room d), I (Dv.used d), V.val (Value.int IntKind.u32 (bif Dv.nl d then (0 : Int) else (1 : Int))), V.val (Value.int IntKind.i32 (0 : Int)), V.val (Value.int IntKind.u32 (0 : Int)), V.mref (1 : Nat), I (Dv.fuse d)]), some (Obj.nest (Nest.mp (Dv.nl d) (mE (Dv.fs d))) [])]) :=
  vcP hmix [.reg 1 [(1, [.call [0, 1] [] (I 0) [some (d.box 1), some d.map]], none)], .reg 4 [(1, [], some true)]] [] [
      Contract Try.prog (34 : Nat) [V.ptr (0 : Nat) (0 : Nat) (0 : Nat) (0 : Nat)] [Obj.box [I (Dv.room d), I (Dv.used d), V.val (Value.int IntKind.u32 (bif Dv.nl d then (0 : Int) else (1 : Int))), V.val (Value.int IntKind.i32 (0 : Int)), V.val (Value.int IntKind.u32 (0 : Int)), V.mref (1 : Nat), I (Dv.fuse d)], Obj.nest (Nest.mp (Dv.nl d) (mE (Dv.fs d))) []] (I (0 : Int)) [some (Obj.box [I (Dv.room d), I (Dv.used d), V.val (Value.int IntKind.u32 (bif Dv.nl d then (0 : Int) else (1 : Int))), V.val (Value.int IntKind.i32 (0 : Int)), V.val (Value.int IntKind.u32 (0 : Int)), V.mref (1 : Nat), I (Dv.fuse d)]), some (Obj.nest (Nest.mp (Dv.nl d) (mE (Dv.fs d))) [])],
      (ByteArray.toList s == []) = true] (by kernel_rfl)
    (by
      simp only [allP]
      and_intros <;> first
        | omega
        | exact cMay0 d hf)

theorem cApp1 (d : Dv) (s : ByteArray) (b : List UInt8) (hf : d.fuse ≠ 0) (hs : (ByteArray.toList s == []) = true) : Contract Try.prog 10 [.ptr 0 0 0 0, .val (.string s), .sl 1 (b.map bR)] [d.box 1, d.map] (I 1) [some (d.box 1), some d.map] := by
  exact Contract.cast (by
    first
      | rfl) (by
    first
      | rfl) (cApp1_0 d s b hf hs )

theorem cApp3_0 (d : Dv) (s : ByteArray) (b : List UInt8) (hf : d.fuse ≠ 0) (hs : (ByteArray.toList s == []) = false) (hb : d.room - d.used < (b.length : Int)) (hr : d.room ≤ 9223372036854775807) (h0 : 0 ≤ d.used) (h1 : d.used ≤ 1000000000) (h2 : 0 ≤ d.room) : Contract Try.prog 10 [.ptr 0 0 0 0, .val (.string s), .sl 1 (b.map bR)] [d.box 1, d.map] (I (3 : Int)) ([some (Obj.box [I (Dv.room d), I (Dv.used d), V.val (Value.int IntKind.u32 (bif Dv.nl d then (0 : Int) else (1 : Int))), V.val (Value.int IntKind.i32 (0 : Int)), V.val (Value.int IntKind.u32 (0 : Int)), V.mref (1 : Nat), I (Dv.fuse d)]), some (Obj.nest (Nest.mp (Dv.nl d) (mE (Dv.fs d))) [])]) :=
  vcP hmix [.reg 1 [(1, [.call [0, 1] [] (I 0) [some (d.box 1), some d.map]], none)], .reg 4 [(1, [], some false)], .reg 6 [(5, [.cst 0 0 (I d.room)], none), (7, [.call [0, 1] [] (I d.used) [some (d.box 1), some d.map]], none), (8, [.be (I (d.room - d.used))], none), (9, [], some true)]] [] [
      Contract Try.prog (34 : Nat) [V.ptr (0 : Nat) (0 : Nat) (0 : Nat) (0 : Nat)] [Obj.box [I (Dv.room d), I (Dv.used d), V.val (Value.int IntKind.u32 (bif Dv.nl d then (0 : Int) else (1 : Int))), V.val (Value.int IntKind.i32 (0 : Int)), V.val (Value.int IntKind.u32 (0 : Int)), V.mref (1 : Nat), I (Dv.fuse d)], Obj.nest (Nest.mp (Dv.nl d) (mE (Dv.fs d))) []] (I (0 : Int)) [some (Obj.box [I (Dv.room d), I (Dv.used d), V.val (Value.int IntKind.u32 (bif Dv.nl d then (0 : Int) else (1 : Int))), V.val (Value.int IntKind.i32 (0 : Int)), V.val (Value.int IntKind.u32 (0 : Int)), V.mref (1 : Nat), I (Dv.fuse d)]), some (Obj.nest (Nest.mp (Dv.nl d) (mE (Dv.fs d))) [])],
      (ByteArray.toList s == []) = false,
      cellIs (some (Obj.box [I (Dv.room d), I (Dv.used d), V.val (Value.int IntKind.u32 (bif Dv.nl d then (0 : Int) else (1 : Int))), V.val (Value.int IntKind.i32 (0 : Int)), V.val (Value.int IntKind.u32 (0 : Int)), V.mref (1 : Nat), I (Dv.fuse d)])) (0 : Nat) (I (Dv.room d)),
      Contract Try.prog (14 : Nat) [V.ptr (0 : Nat) (0 : Nat) (0 : Nat) (0 : Nat)] [Obj.box [I (Dv.room d), I (Dv.used d), V.val (Value.int IntKind.u32 (bif Dv.nl d then (0 : Int) else (1 : Int))), V.val (Value.int IntKind.i32 (0 : Int)), V.val (Value.int IntKind.u32 (0 : Int)), V.mref (1 : Nat), I (Dv.fuse d)], Obj.nest (Nest.mp (Dv.nl d) (mE (Dv.fs d))) []] (I (Dv.used d)) [some (Obj.box [I (Dv.room d), I (Dv.used d), V.val (Value.int IntKind.u32 (bif Dv.nl d then (0 : Int) else (1 : Int))), V.val (Value.int IntKind.i32 (0 : Int)), V.val (Value.int IntKind.u32 (0 : Int)), V.mref (1 : Nat), I (Dv.fuse d)]), some (Obj.nest (Nest.mp (Dv.nl d) (mE (Dv.fs d))) [])],
      cellIs (some (Obj.box [I (Dv.room d), I (Dv.used d), V.val (Value.int IntKind.u32 (bif Dv.nl d then (0 : Int) else (1 : Int))), V.val (Value.int IntKind.i32 (0 : Int)), V.val (Value.int IntKind.u32 (0 : Int)), V.mref (1 : Nat), I (Dv.fuse d)])) (0 : Nat) (I (Dv.room d)),
      IntKind.wrap IntKind.i64 (Dv.room d + -Dv.used d) = Dv.room d + -Dv.used d,
      decide (Int.ofNat (List.length (List.map bR b)) > Dv.room d + -Dv.used d) = true] (by kernel_rfl)
    (by
      simp only [allP]
      and_intros <;> first
        | omega
        | exact cMay0 d hf
        | exact cUsed d
        | rfl
        | exact i64_small (by omega)
        | (simp; omega))

theorem cApp3 (d : Dv) (s : ByteArray) (b : List UInt8) (hf : d.fuse ≠ 0) (hs : (ByteArray.toList s == []) = false) (hb : d.room - d.used < (b.length : Int)) (hr : d.room ≤ 9223372036854775807) (h0 : 0 ≤ d.used) (h1 : d.used ≤ 1000000000) (h2 : 0 ≤ d.room) : Contract Try.prog 10 [.ptr 0 0 0 0, .val (.string s), .sl 1 (b.map bR)] [d.box 1, d.map] (I 3) [some (d.box 1), some d.map] := by
  exact Contract.cast (by
    first
      | rfl) (by
    first
      | rfl) (cApp3_0 d s b hf hs hb hr h0 h1 h2 )

end Go.Proofs.Ythmhkgddohgoeaa

/- Strings in their order, and what is compared by several parts. -/
namespace Go.Proofs.Ythmhkgddohgoeaa
open E
set_option maxRecDepth 100000

theorem bytesLess_lt : ∀ (x y : List UInt8), Op.bytesLess x y = true ↔ x < y
  | x, [] => by cases x <;> simp [Op.bytesLess]
  | [], _ :: _ => by simp [Op.bytesLess]
  | a :: x, b :: y => by simp [Op.bytesLess, List.cons_lt_cons_iff, bytesLess_lt x y]

def ltS (s t : ByteArray) : Bool := Op.bytesLess s.toList t.toList
/-- How two texts stand to one another: -1, 0, 1. -/
def cmpS (s t : ByteArray) : Int := bif ltS s t then -1 else bif (!(ltS s t || s.toList == t.toList)) then 1 else 0
def orI (a b : Int) : Int := bif a != 0 then a else b

theorem toList_inj {s t : ByteArray} (h : s.toList = t.toList) : s = t := by
  rw [ByteArray.toList_eq, ByteArray.toList_eq] at h
  have : s.data = t.data := Array.toList_inj.1 h
  cases s; cases t; simp_all

theorem ltS_iff (s t : ByteArray) : ltS s t = true ↔ s.toList < t.toList := bytesLess_lt _ _
theorem ltS_irrefl (s : ByteArray) : ltS s s = false := by
  rw [Bool.eq_false_iff, ne_eq, ltS_iff]; exact List.lt_irrefl _
theorem ltS_trans {s t u : ByteArray} (h : ltS s t = true) (k : ltS t u = true) : ltS s u = true := by
  rw [ltS_iff] at h k ⊢; exact List.lt_trans h k
theorem ltS_total {s t : ByteArray} (h : ltS s t = false) (k : ltS t s = false) : s = t := by
  rw [Bool.eq_false_iff, ne_eq, ltS_iff] at h k
  exact toList_inj (List.le_antisymm (List.not_lt.1 k) (List.not_lt.1 h))
theorem ltS_asymm {s t : ByteArray} (h : ltS s t = true) : ltS t s = false := by
  cases k : ltS t s with
  | false => rfl
  | true => have := ltS_trans h k; rw [ltS_irrefl] at this; cases this

theorem cmpS_cases (s t : ByteArray) : (cmpS s t = -1 ∧ ltS s t = true) ∨ (cmpS s t = 0 ∧ s = t) ∨ (cmpS s t = 1 ∧ ltS t s = true) := by
  unfold cmpS
  cases h : ltS s t with
  | true => left; simp
  | false =>
    right
    by_cases e : s = t
    · left; subst e; simp
    · right
      have hne : (s.toList == t.toList) = false := by
        rw [beq_eq_false_iff_ne]; exact fun h => e (toList_inj h)
      refine ⟨by simp [hne], ?_⟩
      cases k : ltS t s with
      | true => rfl
      | false => exact absurd (ltS_total h k) e

theorem cmpS_self (s : ByteArray) : cmpS s s = 0 := by
  rcases cmpS_cases s s with ⟨_, h⟩ | ⟨h, _⟩ | ⟨_, h⟩
  · rw [ltS_irrefl] at h; cases h
  · exact h
  · rw [ltS_irrefl] at h; cases h
theorem cmpS_zero {s t : ByteArray} : cmpS s t = 0 ↔ s = t := by
  constructor
  · intro h
    rcases cmpS_cases s t with ⟨k, _⟩ | ⟨_, e⟩ | ⟨k, _⟩
    · omega
    · exact e
    · omega
  · rintro rfl; exact cmpS_self s
theorem cmpS_neg {s t : ByteArray} : cmpS s t < 0 ↔ ltS s t = true := by
  constructor
  · intro h
    rcases cmpS_cases s t with ⟨_, e⟩ | ⟨k, _⟩ | ⟨k, _⟩
    · exact e
    · omega
    · omega
  · intro h
    rcases cmpS_cases s t with ⟨k, _⟩ | ⟨_, e⟩ | ⟨_, k⟩
    · omega
    · subst e; rw [ltS_irrefl] at h; cases h
    · rw [ltS_asymm h] at k; cases k
theorem cmpS_flip (s t : ByteArray) : cmpS t s = - cmpS s t := by
  rcases cmpS_cases s t with ⟨k, e⟩ | ⟨k, e⟩ | ⟨k, e⟩
  · rcases cmpS_cases t s with ⟨k2, e2⟩ | ⟨k2, e2⟩ | ⟨k2, e2⟩
    · rw [ltS_asymm e] at e2; cases e2
    · subst e2; rw [ltS_irrefl] at e; cases e
    · omega
  · subst e; rw [k]; rfl
  · rcases cmpS_cases t s with ⟨k2, e2⟩ | ⟨k2, e2⟩ | ⟨k2, e2⟩
    · omega
    · subst e2; rw [ltS_irrefl] at e; cases e
    · rw [ltS_asymm e] at e2; cases e2

theorem ba_beq (s t : ByteArray) : (s == t) = true ↔ s = t := by
  cases s with | mk a => cases t with | mk b =>
  show (a == b) = true ↔ _
  simp
theorem ba_refl (s : ByteArray) : (s == s) = true := (ba_beq s s).2 rfl

def FNaN : List V → Option V := fun _ => some (Bo false)
def FCmp : List V → Option V
  | [.val (.string a), .val (.string b)] => some (I (cmpS a b))
  | _ => none
def FOr : List V → Option V
  | [.sl _ [[.val (.int _ a)], [.val (.int _ b)]]] => some (I (orI a b))
  | [.sl _ [[.val (.int _ a)], [.val (.int _ b)], [.val (.int _ c)]]] => some (I (orI a (orI b c)))
  | [.sl _ [[.val (.int _ a)], [.val (.int _ b)], [.val (.int _ c)], [.val (.int _ d)]]] => some (I (orI a (orI b (orI c d))))
  | _ => none
end Go.Proofs.Ythmhkgddohgoeaa

/- a device: what its functions do, as a whole. -/
namespace Go.Proofs.Ythmhkgddohgoeaa
open E
set_option maxRecDepth 100000
set_option linter.unusedVariables false
set_option linter.unusedSimpArgs false

/-! ### Files by name -/
def look (fs : Fs) (s : ByteArray) : Option Fi := (fs.find? fun p => s == p.1).map (·.2)
def put : Fs → ByteArray → Fi → Fs
  | [], s, f => [(s, f)]
  | p :: fs, s, f => if s == p.1 then (s, f) :: fs else p :: put fs s f
def del (fs : Fs) (s : ByteArray) : Fs := fs.filter fun p => !(s == p.1)
def tot : Fs → Nat
  | [] => 0
  | p :: fs => p.2.bs.length + tot fs
def Uniq (fs : Fs) : Prop := (fs.map (·.1)).Nodup

theorem look_nil (s : ByteArray) : look [] s = none := rfl
theorem look_cons (p : ByteArray × Fi) (fs : Fs) (s : ByteArray) : look (p :: fs) s = if s == p.1 then some p.2 else look fs s := by
  unfold look; rw [List.find?_cons]; cases s == p.1 <;> rfl
theorem fat_cons (p : ByteArray × Fi) (fs : Fs) (s : ByteArray) : fat (p :: fs) s = if s == p.1 then some 0 else (fat fs s).map (· + 1) := by
  unfold fat; rw [List.findIdx?_cons]

theorem fat_none {fs : Fs} {s : ByteArray} : fat fs s = none ↔ look fs s = none := by
  induction fs with
  | nil => simp [fat, look]
  | cons p fs ih => rw [fat_cons, look_cons]; split <;> simp [ih]
theorem fat_some {fs : Fs} {s : ByteArray} {i : Nat} (h : fat fs s = some i) : ∃ f, fs[i]? = some (s, f) ∧ look fs s = some f := by
  induction fs generalizing i with
  | nil => simp [fat] at h
  | cons p fs ih =>
    rw [fat_cons] at h; rw [look_cons]
    split at h
    · rename_i hb
      cases h
      rw [if_pos hb]
      exact ⟨p.2, by rw [eq_of_beq hb]; rfl, rfl⟩
    · rename_i hb
      rw [if_neg hb]
      cases hf : fat fs s with
      | none => rw [hf] at h; cases h
      | some k =>
        rw [hf] at h; cases h
        obtain ⟨f, h1, h2⟩ := ih hf
        exact ⟨f, by simpa using h1, h2⟩
theorem look_fat {fs : Fs} {s : ByteArray} {f : Fi} (h : look fs s = some f) : ∃ i, fat fs s = some i ∧ fs[i]? = some (s, f) := by
  cases hf : fat fs s with
  | none => rw [fat_none.1 hf] at h; cases h
  | some i =>
    obtain ⟨g, h1, h2⟩ := fat_some hf
    rw [h2] at h; cases h
    exact ⟨i, rfl, h1⟩
theorem look_mem {fs : Fs} {s : ByteArray} {f : Fi} (h : look fs s = some f) : (s, f) ∈ fs := by
  obtain ⟨i, _, h⟩ := look_fat h; exact List.mem_of_getElem? h
theorem look_key {fs : Fs} {s : ByteArray} : (look fs s).isSome = true ↔ s ∈ fs.map (·.1) := by
  induction fs with
  | nil => simp [look]
  | cons p fs ih =>
    rw [look_cons]
    by_cases h : s = p.1
    · subst h; simp
    · have : (s == p.1) = false := beq_eq_false_iff_ne.2 h
      simp [this, ih, h]
theorem Uniq.tail {p : ByteArray × Fi} {fs : Fs} (h : Uniq (p :: fs)) : Uniq fs := (List.nodup_cons.1 h).2
theorem Uniq.head {p : ByteArray × Fi} {fs : Fs} (h : Uniq (p :: fs)) : look fs p.1 = none := by
  have := (List.nodup_cons.1 h).1
  cases hl : look fs p.1 with
  | none => rfl
  | some f => exact absurd (look_key.1 (by rw [hl]; rfl)) this
theorem Uniq.mem {fs : Fs} (h : Uniq fs) {p : ByteArray × Fi} (hp : p ∈ fs) : look fs p.1 = some p.2 := by
  induction fs with
  | nil => simp at hp
  | cons q fs ih =>
    rw [look_cons]
    rcases List.mem_cons.1 hp with rfl | hp
    · simp
    · have : (p.1 == q.1) = false := by
        rw [beq_eq_false_iff_ne]
        intro e
        have := ih h.tail hp
        rw [e, h.head] at this; cases this
      rw [if_neg (by simp [this])]
      exact ih h.tail hp
theorem Uniq.idx {fs : Fs} (h : Uniq fs) {a b : Nat} {s : ByteArray} {f g : Fi} (ha : fs[a]? = some (s, f)) (hb : fs[b]? = some (s, g)) : a = b := by
  have h1 : (fs.map (·.1))[a]? = some s := by rw [List.getElem?_map, ha]; rfl
  have h2 : (fs.map (·.1))[b]? = some s := by rw [List.getElem?_map, hb]; rfl
  exact (List.getElem?_inj (List.getElem?_eq_some_iff.1 h1).1 h).1 (by rw [h1, h2])

theorem put_at {fs : Fs} {s : ByteArray} {i : Nat} {f : Fi} (h : fat fs s = some i) : put fs s f = fs.set i (s, f) := by
  induction fs generalizing i with
  | nil => simp [fat] at h
  | cons p fs ih =>
    rw [fat_cons] at h
    unfold put
    split at h
    · rename_i hb; cases h; rw [if_pos hb]; rfl
    · rename_i hb
      rw [if_neg hb]
      cases hf : fat fs s with
      | none => rw [hf] at h; cases h
      | some k => rw [hf] at h; cases h; rw [ih hf]; rfl
theorem put_new {fs : Fs} {s : ByteArray} {f : Fi} (h : look fs s = none) : put fs s f = fs ++ [(s, f)] := by
  induction fs with
  | nil => rfl
  | cons p fs ih =>
    rw [look_cons] at h
    unfold put
    split at h
    · cases h
    · rename_i hb; rw [if_neg hb, ih h]; rfl
theorem look_put (fs : Fs) (s : ByteArray) (f : Fi) (t : ByteArray) : look (put fs s f) t = if t = s then some f else look fs t := by
  induction fs with
  | nil => unfold put; rw [look_cons, look_nil]; by_cases h : t = s <;> simp [h]
  | cons p fs ih =>
    unfold put
    split
    · rename_i hb
      have hb := eq_of_beq hb
      rw [look_cons, look_cons]
      by_cases h : t = s
      · simp [h]
      · have h2 : ¬ (t == s) = true := by simpa using h
        have h3 : ¬ (t == p.1) = true := by rw [← hb]; exact h2
        simp only [if_neg h2, if_neg h3, if_neg h]
    · rename_i hb
      rw [look_cons, look_cons, ih]
      by_cases h : t = s
      · subst h; simp only [if_neg hb, if_pos rfl]
      · simp only [if_neg h]
theorem mem_put {fs : Fs} {s : ByteArray} {f : Fi} {p : ByteArray × Fi} (h : p ∈ put fs s f) : p = (s, f) ∨ p ∈ fs := by
  induction fs with
  | nil => simp [put] at h; exact .inl h
  | cons q fs ih =>
    unfold put at h
    split at h
    · rcases List.mem_cons.1 h with h | h
      · exact .inl h
      · exact .inr (by simp [h])
    · rcases List.mem_cons.1 h with h | h
      · exact .inr (by simp [h])
      · rcases ih h with h | h
        · exact .inl h
        · exact .inr (by simp [h])
theorem uniq_put {fs : Fs} {s : ByteArray} {f : Fi} (h : Uniq fs) : Uniq (put fs s f) := by
  induction fs with
  | nil => simp [put, Uniq]
  | cons p fs ih =>
    unfold put
    split
    · rename_i hb
      have hb := eq_of_beq hb
      unfold Uniq at h ⊢
      simp only [List.map_cons] at h ⊢
      rw [hb]; exact h
    · rename_i hb
      refine List.nodup_cons.2 ⟨fun hm => ?_, ih h.tail⟩
      have := look_key.2 hm
      rw [look_put] at this
      by_cases e : p.1 = s
      · exact hb (by rw [e]; simp)
      · rw [if_neg e, h.head] at this; cases this
def len (o : Option Fi) : Nat := match o with
  | some f => f.bs.length
  | none => 0
theorem tot_put (fs : Fs) (s : ByteArray) (f : Fi) : tot (put fs s f) + len (look fs s) = tot fs + f.bs.length := by
  induction fs with
  | nil => simp [put, tot, look, len]
  | cons p fs ih =>
    unfold put
    rw [look_cons]
    split
    · simp only [tot, len]; omega
    · simp only [tot]; omega
theorem tot_look {fs : Fs} {s : ByteArray} {f : Fi} (h : look fs s = some f) : f.bs.length ≤ tot fs := by
  have := tot_put fs s f
  have h0 : tot (put fs s ⟨[], 0⟩) + len (look fs s) = tot fs + 0 := tot_put fs s ⟨[], 0⟩
  rw [h, len] at h0
  omega
theorem length_put (fs : Fs) (s : ByteArray) (f : Fi) : (put fs s f).length = fs.length + (if (look fs s).isSome then 0 else 1) := by
  induction fs with
  | nil => simp [put, look]
  | cons p fs ih =>
    unfold put
    rw [look_cons]
    split
    · simp
    · simp only [List.length_cons, ih]; omega

theorem del_none {fs : Fs} {s : ByteArray} (h : look fs s = none) : del fs s = fs := by
  induction fs with
  | nil => rfl
  | cons p fs ih =>
    rw [look_cons] at h
    split at h
    · cases h
    · rename_i hb
      unfold del at ih ⊢
      rw [List.filter_cons_of_pos (by simpa using hb), ih h]
theorem del_at {fs : Fs} {s : ByteArray} {i : Nat} (hu : Uniq fs) (h : fat fs s = some i) : fs.eraseIdx i = del fs s := by
  induction fs generalizing i with
  | nil => simp [fat] at h
  | cons p fs ih =>
    rw [fat_cons] at h
    split at h
    · rename_i hb
      cases h
      have e := eq_of_beq hb
      have : del (p :: fs) s = del fs s := by unfold del; rw [List.filter_cons_of_neg (by simp [e])]
      rw [this, del_none (by rw [e]; exact hu.head)]
      rfl
    · rename_i hb
      cases hf : fat fs s with
      | none => rw [hf] at h; cases h
      | some k =>
        rw [hf] at h; cases h
        have : del (p :: fs) s = p :: del fs s := by unfold del; rw [List.filter_cons_of_pos (by simpa using hb)]
        rw [this, ← ih hu.tail hf]
        rfl
theorem look_del (fs : Fs) (s t : ByteArray) : look (del fs s) t = if t = s then none else look fs t := by
  induction fs with
  | nil => simp [del, look]
  | cons p fs ih =>
    rw [look_cons]
    by_cases hb : s = p.1
    · have : del (p :: fs) s = del fs s := by unfold del; rw [List.filter_cons_of_neg (by simp [hb])]
      rw [this, ih]
      by_cases h : t = s
      · simp [h]
      · have h3 : ¬ (t == p.1) = true := by rw [← hb]; simpa using h
        simp only [if_neg h, if_neg h3]
    · have : del (p :: fs) s = p :: del fs s := by unfold del; rw [List.filter_cons_of_pos (by simpa using hb)]
      rw [this, look_cons, ih]
      by_cases h : t = s
      · subst h; simp [hb]
      · simp only [if_neg h]
theorem mem_del {fs : Fs} {s : ByteArray} {p : ByteArray × Fi} (h : p ∈ del fs s) : p ∈ fs := (List.mem_filter.1 h).1
theorem uniq_del {fs : Fs} {s : ByteArray} (h : Uniq fs) : Uniq (del fs s) := h.sublist ((List.filter_sublist (l := fs)).map _)
theorem tot_del {fs : Fs} (hu : Uniq fs) (s : ByteArray) : tot (del fs s) + len (look fs s) = tot fs := by
  induction fs with
  | nil => simp [del, tot, look, len]
  | cons p fs ih =>
    rw [look_cons]
    by_cases hb : s = p.1
    · have e : del (p :: fs) s = fs := by
        unfold del
        rw [List.filter_cons_of_neg (by simp [hb])]
        exact del_none (by rw [hb]; exact hu.head)
      rw [e, if_pos (by simp [hb])]
      simp only [len, tot]; omega
    · have : del (p :: fs) s = p :: del fs s := by unfold del; rw [List.filter_cons_of_pos (by simpa using hb)]
      have ih := ih hu.tail
      rw [this, if_neg (by simpa using hb)]
      simp only [tot]; omega
theorem length_del (fs : Fs) (s : ByteArray) : (del fs s).length ≤ fs.length := List.length_filter_le ..
theorem tot_app (fs gs : Fs) : tot (fs ++ gs) = tot fs + tot gs := by
  induction fs with
  | nil => simp [tot]
  | cons p fs ih => simp only [List.cons_append, tot, ih]; omega

/-! ### Devices -/
structure Ok (d : Dv) : Prop where
  used : d.used = tot d.fs
  uniq : Uniq d.fs
  sure : ∀ p ∈ d.fs, 0 ≤ p.2.sure ∧ p.2.sure ≤ p.2.bs.length
  nl : d.nl = true → d.fs = []
  fuse : d.fuse ≤ 9223372036854775807
  room : 0 ≤ d.room ∧ d.room ≤ 9223372036854775807
  names : ∀ p ∈ d.fs, p.1.size ≤ maxLen
  tot : tot d.fs ≤ 1000000000
  few : d.fs.length ≤ 1000000000

theorem went_ok {d : Dv} (h : Ok d) : Ok d.went := by
  refine ⟨h.used, h.uniq, h.sure, h.nl, ?_, h.room, h.names, h.tot, h.few⟩
  have := h.fuse
  simp only [Dv.went]
  cases hd : decide (d.fuse > 0) with
  | true => simp only [cond_true]; omega
  | false => simp only [cond_false]; omega

def Dv.append (d : Dv) (s : ByteArray) (b : List UInt8) : Dv × Int :=
  if d.fuse = 0 then (d, 5) else if s.toList = [] then (d, 1) else if d.room - d.used < b.length then (d, 3) else
    ((⟨d.room, d.used + b.length, false, put d.fs s ⟨((look d.fs s).map (·.bs)).getD [] ++ b, ((look d.fs s).map (·.sure)).getD 0⟩, d.fuse⟩ : Dv).went, 0)
def Dv.sync (d : Dv) (s : ByteArray) : Dv × Int :=
  if d.fuse = 0 then (d, 5) else match look d.fs s with
    | some f => ((⟨d.room, d.used, d.nl, put d.fs s ⟨f.bs, f.bs.length⟩, d.fuse⟩ : Dv).went, 0)
    | none => (d, 4)
def Dv.delete (d : Dv) (s : ByteArray) : Dv × Int :=
  if d.fuse = 0 then (d, 5) else match look d.fs s with
    | some f => ((⟨d.room, d.used - f.bs.length, d.nl, del d.fs s, d.fuse⟩ : Dv).went, 0)
    | none => (d, 4)
def Dv.rename (d : Dv) (s t : ByteArray) : Dv × Int :=
  if d.fuse = 0 then (d, 5) else match look d.fs s with
    | some f => if t.toList = [] then (d, 1) else if s = t then (d.went, 0) else ((⟨d.room, d.used - len (look d.fs t), d.nl, del (del d.fs t) s ++ [(t, f)], d.fuse⟩ : Dv).went, 0)
    | none => (d, 4)

theorem nlB {s : ByteArray} (h : s.toList = []) : (ByteArray.toList s == []) = true := by rw [h]; rfl
theorem nlN {s : ByteArray} (h : ¬ s.toList = []) : (ByteArray.toList s == []) = false := by simpa using h

/-- A device whose map has one name, has another one. -/
theorem renMapD {f : FuncId} {args : List V} {d : Dv} {r : V} {d' : Dv} (n : Int) (hr : r = I n) (h : Contract Try.prog f args [d.box 1, d.map] r [some (d'.box 1), some d'.map]) :
    Contract Try.prog f args [d.box 1, d.map] r [some (d'.box 2), none, some d'.map] := by
  subst hr
  refine Contract.renMap (cells := d'.cells 1) (cells' := d'.cells 2) rfl h (fun _ _ h => by simpa only [I, V.rep] using h) (fun {w G τ τ' xs} h0 h2 h => ?_)
  revert h
  simp only [Dv.cells]
  match xs with
  | [a, b, c, e, f, g, h] =>
    simp only [repL, V.rep, V.repI, I, h2]
    exact id
  | [] | [_] | [_, _] | [_, _, _] | [_, _, _, _] | [_, _, _, _, _] | [_, _, _, _, _, _] => simp [repL]
  | _ :: _ :: _ :: _ :: _ :: _ :: _ :: _ :: _ => simp [repL]

theorem cAppend (d : Dv) (s : ByteArray) (b : List UInt8) (hk : Ok d) (hb : tot d.fs + b.length ≤ 1000000000) :
    Contract Try.prog 10 [.ptr 0 0 0 0, .val (.string s), .sl 1 (b.map bR)] [d.box 1, d.map] (I (d.append s b).2) [some ((d.append s b).1.box 2), none, some (d.append s b).1.map] := by
  have hu := hk.used
  have hr := hk.room
  have ht := hk.tot
  unfold Dv.append
  split
  · rename_i h0; exact renMapD _ rfl (cApp5 d s b h0)
  rename_i h0
  split
  · rename_i h1; exact renMapD _ rfl (cApp1 d s b h0 (nlB h1))
  rename_i h1
  split
  · rename_i h2; exact renMapD _ rfl (cApp3 d s b h0 (nlN h1) h2 (by omega) (by omega) (by omega) (by omega))
  rename_i h2
  cases hl : look d.fs s with
  | none =>
    rw [put_new hl]
    exact cAppB d s b h0 hk.fuse (nlN h1) (by omega) (by omega) (by omega) hk.nl (fat_none.2 hl) (by omega)
  | some f =>
    obtain ⟨i, h3, h4⟩ := look_fat hl
    rw [put_at h3]
    have := tot_look hl
    exact cAppA d s b i f h0 hk.fuse (nlN h1) (by omega) (by omega) (by omega) hk.nl h3 h4 (by omega)
theorem append_ok {d : Dv} {s : ByteArray} {b : List UInt8} (hk : Ok d) (hb : tot d.fs + b.length ≤ 1000000000) (hs : s.size ≤ maxLen) (hf : d.fs.length < 1000000000) : Ok (d.append s b).1 := by
  unfold Dv.append
  split
  · exact hk
  split
  · exact hk
  split
  · exact hk
  refine went_ok ⟨?_, uniq_put hk.uniq, fun p hp => ?_, fun h => by simp at h, hk.fuse, hk.room, fun p hp => ?_, ?_, ?_⟩
  · have h1 := tot_put d.fs s ⟨((look d.fs s).map (·.bs)).getD [] ++ b, ((look d.fs s).map (·.sure)).getD 0⟩
    have h2 := hk.used
    cases hl : look d.fs s with
    | none => rw [hl] at h1; simp only [hl, len, Option.map_none, Option.getD_none, List.nil_append] at h1 ⊢; omega
    | some f => rw [hl] at h1; simp only [hl, len, Option.map_some, Option.getD_some, List.length_append] at h1 ⊢; omega
  · rcases mem_put hp with rfl | hp
    · cases hl : look d.fs s with
      | none => simp
      | some f =>
        have := hk.sure _ (look_mem hl)
        simp only [Option.map_some, Option.getD_some, List.length_append] at this ⊢; omega
    · exact hk.sure p hp
  · rcases mem_put hp with rfl | hp
    · exact hs
    · exact hk.names p hp
  · have h1 := tot_put d.fs s ⟨((look d.fs s).map (·.bs)).getD [] ++ b, ((look d.fs s).map (·.sure)).getD 0⟩
    cases hl : look d.fs s with
    | none => rw [hl] at h1; simp only [hl, len, Option.map_none, Option.getD_none, List.nil_append] at h1 ⊢; omega
    | some f => rw [hl] at h1; simp only [hl, len, Option.map_some, Option.getD_some, List.length_append] at h1 ⊢; omega
  · have := length_put d.fs s ⟨((look d.fs s).map (·.bs)).getD [] ++ b, ((look d.fs s).map (·.sure)).getD 0⟩
    split at this <;> (simp only [] at this ⊢; omega)

theorem cSync (d : Dv) (s : ByteArray) (hk : Ok d) : Contract Try.prog 12 [.ptr 0 0 0 0, .val (.string s)] [d.box 1, d.map] (I (d.sync s).2) [some ((d.sync s).1.box 1), some (d.sync s).1.map] := by
  unfold Dv.sync
  split
  · rename_i h0; exact cSyncC d s h0
  rename_i h0
  cases hl : look d.fs s with
  | none => exact cSyncB d s h0 (fat_none.2 hl)
  | some f =>
    obtain ⟨i, h3, h4⟩ := look_fat hl
    simp only []
    rw [put_at h3]
    exact cSyncA d s i f h0 hk.fuse h3 h4
theorem sync_ok {d : Dv} {s : ByteArray} (hk : Ok d) : Ok (d.sync s).1 := by
  unfold Dv.sync
  split
  · exact hk
  cases hl : look d.fs s with
  | none => exact hk
  | some f =>
    have h1 := tot_put d.fs s ⟨f.bs, f.bs.length⟩
    rw [hl, len] at h1
    have h2 := length_put d.fs s ⟨f.bs, f.bs.length⟩
    rw [hl] at h2
    refine went_ok ⟨?_, uniq_put hk.uniq, fun p hp => ?_, fun h => ?_, hk.fuse, hk.room, fun p hp => ?_, ?_, ?_⟩
    · have := hk.used; simp only [] at h1 ⊢; omega
    · rcases mem_put hp with rfl | hp
      · simp
      · exact hk.sure p hp
    · have := hk.nl h; rw [this] at hl; simp [look] at hl
    · rcases mem_put hp with rfl | hp
      · exact hk.names (s, f) (look_mem hl)
      · exact hk.names p hp
    · have := hk.tot; simp only [] at h1 ⊢; omega
    · have := hk.few; simp only [Option.isSome_some, if_true] at h2 ⊢; omega

theorem cDelete (d : Dv) (s : ByteArray) (hk : Ok d) : Contract Try.prog 16 [.ptr 0 0 0 0, .val (.string s)] [d.box 1, d.map] (I (d.delete s).2) [some ((d.delete s).1.box 1), some (d.delete s).1.map] := by
  unfold Dv.delete
  split
  · rename_i h0; exact cDelC d s h0
  rename_i h0
  cases hl : look d.fs s with
  | none => exact cDelB d s h0 (fat_none.2 hl)
  | some f =>
    obtain ⟨i, h3, h4⟩ := look_fat hl
    have h5 := tot_look hl
    have h6 := hk.used
    have h7 := hk.tot
    simp only []
    rw [← del_at hk.uniq h3]
    exact cDelA d s i f h0 hk.fuse h3 h4 (by omega) (by omega)
theorem delete_ok {d : Dv} {s : ByteArray} (hk : Ok d) : Ok (d.delete s).1 := by
  unfold Dv.delete
  split
  · exact hk
  cases hl : look d.fs s with
  | none => exact hk
  | some f =>
    have h1 := tot_del hk.uniq s
    rw [hl, len] at h1
    refine went_ok ⟨?_, uniq_del hk.uniq, fun p hp => hk.sure p (mem_del hp), fun h => ?_, hk.fuse, hk.room, fun p hp => hk.names p (mem_del hp), ?_, Nat.le_trans (length_del _ _) hk.few⟩
    · have := hk.used; simp only [] at h1 ⊢; omega
    · have := hk.nl h; rw [this] at hl; simp [look] at hl
    · have := hk.tot; simp only [] at h1 ⊢; omega

theorem cRead (d : Dv) (s : ByteArray) (hk : Ok d) : Contract Try.prog 18 [.ptr 0 0 0 0, .val (.string s)] [d.box 1, d.map] (.tup [.sl 1 ((((look d.fs s).map (·.bs)).getD []).map bR), Bo (look d.fs s).isSome]) [some (d.box 1), some d.map] := by
  cases hl : look d.fs s with
  | none => exact cReadB d s (fat_none.2 hl)
  | some f =>
    obtain ⟨i, h3, h4⟩ := look_fat hl
    have h5 := tot_look hl
    have h7 := hk.tot
    exact cReadA d s i f h3 h4 (by omega)

theorem era2 {α : Type} {l : List α} {x : α} {i j : Nat} (hij : i ≠ j) : ((l.set i x).eraseIdx j).eraseIdx (if j < i then i - 1 else i) = (l.eraseIdx j).eraseIdx (if j < i then i - 1 else i) := by
  apply List.ext_getElem?
  intro q
  simp only [List.getElem?_eraseIdx, List.getElem?_set]
  split <;> split
  all_goals
    rename_i h1 h2
    first
    | (by_cases hq : q < j <;> simp only [hq, if_true, if_false] <;> rw [if_neg (by omega)])
    | (by_cases hq : q + 1 < j <;> simp only [hq, if_true, if_false] <;> rw [if_neg (by omega)])

theorem cRename (d : Dv) (s t : ByteArray) (hk : Ok d) : Contract Try.prog 19 [.ptr 0 0 0 0, .val (.string s), .val (.string t)] [d.box 1, d.map] (I (d.rename s t).2) [some ((d.rename s t).1.box 1), some (d.rename s t).1.map] := by
  unfold Dv.rename
  split
  · rename_i h0; exact cRenC d s t h0
  rename_i h0
  cases hl : look d.fs s with
  | none => exact cRenB d s t h0 (fat_none.2 hl)
  | some f =>
    obtain ⟨i, h3, h4⟩ := look_fat hl
    simp only []
    split
    · rename_i h1; exact cRenE d s t i f h0 (nlB h1) h3 h4
    rename_i h1
    split
    · rename_i h2; subst h2; exact cRenS d s i f h0 hk.fuse (nlN h1) h3 h4
    rename_i h2
    have hne : (!(ByteArray.toList s == ByteArray.toList t)) = true := by
      have : (ByteArray.toList s == ByteArray.toList t) = false := by rw [beq_eq_false_iff_ne]; exact fun h => h2 (toList_inj h)
      rw [this]; rfl
    have hnl : d.nl = false := by
      cases hn : d.nl with
      | false => rfl
      | true => have := hk.nl hn; rw [this] at hl; simp [look] at hl
    cases hlt : look d.fs t with
    | none =>
      have e1 : del (del d.fs t) s = d.fs.eraseIdx i := by rw [del_none hlt, del_at hk.uniq h3]
      rw [e1]
      have := cRenN d s t i f h0 hk.fuse (nlN h1) hne hnl h3 h4 (fat_none.2 hlt) (fat_none.2 (by rw [del_at hk.uniq h3, look_del, hlt]; simp))
      simpa only [len, Int.ofNat_zero, Int.sub_zero, Int.natCast_zero] using this
    | some g =>
      obtain ⟨j, h5, h6⟩ := look_fat hlt
      have h7 := tot_look hlt
      have h8 := hk.used
      have h9 := hk.tot
      have hij : i ≠ j := by
        intro e
        rw [e, h6] at h4
        simp only [Option.some.injEq, Prod.mk.injEq] at h4
        exact h2 h4.1.symm
      have e1 := del_at hk.uniq h5
      have u1 : Uniq (d.fs.eraseIdx j) := by rw [e1]; exact uniq_del hk.uniq
      have l1 : look (d.fs.eraseIdx j) s = some f := by rw [e1, look_del, if_neg h2, hl]
      obtain ⟨k, k1, k2⟩ := look_fat l1
      have hk' : k = if j < i then i - 1 else i := by
        refine u1.idx k2 (g := f) ?_
        rw [List.getElem?_eraseIdx]
        by_cases h : j < i
        · rw [if_pos h, if_neg (by omega), show i - 1 + 1 = i by omega]; exact h4
        · rw [if_neg h, if_pos (by omega)]; exact h4
      have e2 := del_at u1 k1
      have := cRenT d s t i f j k g h0 hk.fuse (nlN h1) hne hnl h3 h4 h5 h6 hij (by omega) (by omega) k1 (fun x => by rw [hk', era2 hij, mE_erase, mE_erase]) (fat_none.2 (by rw [e2, look_del, e1, look_del]; simp))
      rw [e2, e1] at this
      exact this
theorem rename_ok {d : Dv} {s t : ByteArray} (hk : Ok d) (hs : t.size ≤ maxLen) : Ok (d.rename s t).1 := by
  unfold Dv.rename
  split
  · exact hk
  cases hl : look d.fs s with
  | none => exact hk
  | some f =>
    simp only []
    split
    · exact hk
    split
    · exact went_ok hk
    rename_i h2
    have u1 : Uniq (del d.fs t) := uniq_del hk.uniq
    have u2 : Uniq (del (del d.fs t) s) := uniq_del u1
    have h1 := tot_del hk.uniq t
    have h3 := tot_del u1 s
    have h4 : look (del d.fs t) s = some f := by rw [look_del, if_neg h2, hl]
    rw [h4, len] at h3
    have hn : look (del (del d.fs t) s) t = none := by rw [look_del, look_del]; simp
    have e : del (del d.fs t) s ++ [(t, f)] = put (del (del d.fs t) s) t f := (put_new hn).symm
    have htot : tot (del (del d.fs t) s ++ [(t, f)]) = tot d.fs - len (look d.fs t) := by
      rw [tot_app]; simp only [tot]; omega
    have hle : len (look d.fs t) ≤ tot d.fs := by omega
    refine went_ok ⟨?_, by rw [e]; exact uniq_put u2, fun p hp => ?_, fun h => ?_, hk.fuse, hk.room, fun p hp => ?_, ?_, ?_⟩
    · have := hk.used; simp only [] at htot ⊢; rw [htot]; omega
    · rcases List.mem_append.1 hp with hp | hp
      · exact hk.sure p (mem_del (mem_del hp))
      · simp at hp; subst hp; exact hk.sure (s, f) (look_mem hl)
    · have := hk.nl h; rw [this] at hl; simp [look] at hl
    · rcases List.mem_append.1 hp with hp | hp
      · exact hk.names p (mem_del (mem_del hp))
      · simp at hp; subst hp; exact hs
    · have := hk.tot; simp only [] at htot ⊢; rw [htot]; omega
    · have := hk.few
      have h5 : (del (del d.fs t) s).length + 1 ≤ (del d.fs t).length := by
        obtain ⟨k, k1, k2⟩ := look_fat h4
        rw [← del_at u1 k1, List.length_eraseIdx]
        have := (List.getElem?_eq_some_iff.1 k2).1
        rw [if_pos this]; omega
      have h6 := length_del d.fs t
      simp only [List.length_append, List.length_singleton]; omega
end Go.Proofs.Ythmhkgddohgoeaa

/- a device: Files, Crash, as a whole. -/
namespace Go.Proofs.Ythmhkgddohgoeaa
open E
set_option maxRecDepth 100000
set_option linter.unusedVariables false
set_option linter.unusedSimpArgs false

theorem sortF_perm (fs : Fs) : (sortF fs).Perm fs := List.mergeSort_perm ..
theorem sortF_len (fs : Fs) : (sortF fs).length = fs.length := (sortF_perm fs).length_eq
theorem sortF_mem {fs : Fs} {p : ByteArray × Fi} : p ∈ sortF fs ↔ p ∈ fs := (sortF_perm fs).mem_iff
theorem sortF_uniq {fs : Fs} (h : Uniq fs) : Uniq (sortF fs) := ((sortF_perm fs).map _).symm.nodup h

theorem cNamesK (d : Dv) (hk : Ok d) : Contract Try.prog 40 [.ptr 0 0 0 0] [d.box 1, d.map] (.sl 1 ((namesF d.fs).map sR)) [some (d.box 1), some d.map] := cNames d hk.nl hk.few hk.names

theorem cFiles (d : Dv) (hk : Ok d) : Contract Try.prog 15 [.ptr 0 0 0 0] [d.box 1, d.map] (.sl 3 ((sortF d.fs).map fR)) [some (d.box 1), some d.map] := by
  refine cFilesA d (namesF d.fs) (sortF d.fs) (cNamesK d hk) ?_
  have hlen : (namesF d.fs).length = (sortF d.fs).length := by unfold namesF; simp
  have h := LoopC.pass (P := Try.prog) (k := 2) (n := 38) (c := fiB) (sortF d.fs) (fun i => fiS d (namesF d.fs) ((sortF d.fs).take i) i) (e := .exit 0) (by simp) (fun i x hx hi => ?_) (fiE d _ _ _ (by rw [hlen]; exact Nat.le_refl _))
  · rw [hlen]
    simpa only [List.take_zero, List.take_length] using h
  · have hm := sortF_mem.1 (List.mem_of_getElem? hx)
    have hl := hk.uniq.mem hm
    obtain ⟨j, h1, h2⟩ := look_fat hl
    have h3 := tot_look hl
    have h4 := hk.tot
    have h5 := hk.few
    have h6 := sortF_len d.fs
    have ht : (sortF d.fs).take (i + 1) = (sortF d.fs).take i ++ [x] := by rw [List.take_add_one, hx]; rfl
    show CodeC _ _ _ _ (fiS d (namesF d.fs) ((sortF d.fs).take i) i) _ (fiS d (namesF d.fs) ((sortF d.fs).take (i + 1)) (i + 1))
    rw [ht]
    exact fiG d (namesF d.fs) _ x.1 x.2 i j (by unfold namesF; rw [List.getElem?_map, hx]; rfl) (by omega) (by omega) h1 h2 (by omega) (by simp; omega)

/-! ### Crash -/
def cut (f : Fi) (p : Option Int) : Fi := ⟨f.bs.take (crN f p).toNat, crN f p⟩
def crash1 (d : Dv) (s : ByteArray) (p : Option Int) : Dv := match look d.fs s with
  | some f => ⟨d.room, d.used + (crN f p - f.bs.length), d.nl, put d.fs s (cut f p), d.fuse⟩
  | none => d
def crashL (ps : List Int) : List ByteArray → Nat → Dv → Dv
  | [], _, d => d
  | s :: ns, i, d => crashL ps ns (i + 1) (crash1 d s ps[i]?)
def Dv.crash (d : Dv) (ps : List Int) : Dv := crashL ps (namesF d.fs) 0 ⟨d.room, d.used, d.nl, d.fs, -1⟩

theorem crN_bnd {f : Fi} (h0 : 0 ≤ f.sure) (h1 : f.sure ≤ f.bs.length) (p : Option Int) : f.sure ≤ crN f p ∧ crN f p ≤ f.bs.length := by
  unfold crN
  cases p with
  | none => simp only []; omega
  | some x => simp only [Int.ofNat_eq_natCast]; (split <;> split) <;> omega

theorem cut_ok {f : Fi} (h0 : 0 ≤ f.sure) (h1 : f.sure ≤ f.bs.length) (p : Option Int) : 0 ≤ (cut f p).sure ∧ (cut f p).sure ≤ (cut f p).bs.length ∧ ((cut f p).bs.length : Int) = crN f p := by
  have := crN_bnd h0 h1 p
  unfold cut
  simp only [List.length_take]
  omega

theorem crash1_ok {d : Dv} (hk : Ok d) (s : ByteArray) (p : Option Int) : Ok (crash1 d s p) := by
  unfold crash1
  cases hl : look d.fs s with
  | none => exact hk
  | some f =>
    have hs : 0 ≤ f.sure ∧ f.sure ≤ f.bs.length := hk.sure (s, f) (look_mem hl)
    have hc := cut_ok hs.1 hs.2 p
    have hb := crN_bnd hs.1 hs.2 p
    have h1 := tot_put d.fs s (cut f p)
    have h2 := length_put d.fs s (cut f p)
    have h3 := hk.used
    have h4 := hk.tot
    rw [hl] at h1 h2
    simp only [len, Option.isSome_some, if_true] at h1 h2
    refine ⟨?_, uniq_put hk.uniq, fun q hq => ?_, fun h => ?_, hk.fuse, hk.room, fun q hq => ?_, ?_, ?_⟩
    · simp only []; omega
    · rcases mem_put hq with rfl | hq
      · exact ⟨hc.1, hc.2.1⟩
      · exact hk.sure q hq
    · have := hk.nl h; rw [this] at hl; simp [look] at hl
    · rcases mem_put hq with rfl | hq
      · exact hk.names (s, f) (look_mem hl)
      · exact hk.names q hq
    · simp only []; omega
    · have := hk.few; simp only []; omega

theorem crash1_look (d : Dv) (s : ByteArray) (p : Option Int) (t : ByteArray) : look (crash1 d s p).fs t = if t = s then (look d.fs s).map (cut · p) else look d.fs t := by
  unfold crash1
  cases hl : look d.fs s with
  | none =>
    by_cases h : t = s
    · rw [if_pos h, h, hl]; rfl
    · rw [if_neg h]
  | some f =>
    simp only [look_put]
    rfl

theorem crashLoop (ps : List Int) (NS : List ByteArray) (hN : NS.length ≤ 1000000000) : ∀ (ns : List ByteArray) (i : Nat) (d : Dv), NS.drop i = ns → i ≤ NS.length → Ok d → (∀ s ∈ NS, (look d.fs s).isSome = true) →
    LoopC Try.prog 2 79 caB (caS d ps NS i) (.exit 0) (caS (crashL ps ns i d) ps NS NS.length)
  | [], i, d, hd, hi, hk, hall => by
    have hi' : i = NS.length := by
      have := congrArg List.length hd
      simp only [List.length_drop, List.length_nil] at this
      omega
    subst hi'
    exact LoopC.last (caE d ps NS _ (Nat.le_refl _)) (by simp)
  | s :: ns, i, d, hd, hi, hk, hall => by
    have hlt : i < NS.length := by
      have := congrArg List.length hd
      simp only [List.length_drop, List.length_cons] at this
      omega
    have hx : NS[i]? = some s := by
      have := congrArg (fun l => l[0]?) hd
      simpa [List.getElem?_drop] using this
    have hd2 : NS.drop (i + 1) = ns := by
      have := congrArg List.tail hd
      simpa using this
    obtain ⟨f, hf⟩ := Option.isSome_iff_exists.1 (hall s (List.mem_of_getElem? hx))
    obtain ⟨j, h1, h2⟩ := look_fat hf
    have h3 := tot_look hf
    have h4 := hk.tot
    have h5 := hk.used
    have hs := hk.sure (s, f) (look_mem hf)
    simp only at hs
    have hb := crN_bnd hs.1 hs.2 ps[i]?
    have ih := crashLoop ps NS hN ns (i + 1) (crash1 d s ps[i]?) hd2 (by omega) (crash1_ok hk s _) (fun t ht => by
      rw [crash1_look]
      split
      · rw [hf]; rfl
      · exact hall t ht)
    have e : crash1 d s ps[i]? = crD d j s f (crN f ps[i]?) := by
      unfold crash1 crD cut
      rw [hf]
      simp only [put_at h1]
    rw [e] at ih
    rw [crashL, e]
    refine LoopC.next ?_ ih
    cases hp : ps[i]? with
    | none =>
      rw [hp] at hb
      exact caN d ps NS s f i j _ hx hlt hN h1 h2 (by omega) hs.1 hs.2 (by omega) (by omega) (by omega) hb.2 (by
        rcases Nat.lt_or_ge i ps.length with h | h
        · rw [List.getElem?_eq_getElem h] at hp; cases hp
        · exact h) rfl
    | some x =>
      rw [hp] at hb
      exact caG d ps NS s f i j _ x hx hlt hN h1 h2 (by omega) hs.1 hs.2 (by omega) (by omega) (by omega) hb.2 hp (List.getElem?_eq_some_iff.1 hp).1 rfl

theorem dead_ok {d : Dv} (hk : Ok d) : Ok ⟨d.room, d.used, d.nl, d.fs, -1⟩ := ⟨hk.used, hk.uniq, hk.sure, hk.nl, (by decide : (-1 : Int) ≤ 9223372036854775807), hk.room, hk.names, hk.tot, hk.few⟩
theorem crashL_ok (ps : List Int) : ∀ (ns : List ByteArray) (i : Nat) (d : Dv), Ok d → Ok (crashL ps ns i d)
  | [], _, _, h => h
  | s :: ns, i, d, h => crashL_ok ps ns (i + 1) _ (crash1_ok h s _)
theorem crash_ok {d : Dv} (hk : Ok d) (ps : List Int) : Ok (d.crash ps) := crashL_ok ps _ _ _ (dead_ok hk)

theorem cCrash (d : Dv) (ps : List Int) (hk : Ok d) : Contract Try.prog 17 [.ptr 0 0 0 0, .sl 1 (ps.map iR)] [d.box 1, d.map] (.tup []) [some ((d.crash ps).box 1), some (d.crash ps).map] := by
  have hlen : (namesF d.fs).length = d.fs.length := by unfold namesF; simp [sortF_len]
  have h5 := hk.few
  refine cCrashA d (d.crash ps) ps (namesF d.fs) (cNamesK ⟨d.room, d.used, d.nl, d.fs, -1⟩ (dead_ok hk)) ?_
  exact crashLoop ps (namesF d.fs) (by omega) (namesF d.fs) 0 _ rfl (by omega) (dead_ok hk) (fun s hs => by
    obtain ⟨p, hp, rfl⟩ := List.mem_map.1 hs
    simp only []
    rw [hk.uniq.mem (sortF_mem.1 hp)]
    rfl)
end Go.Proofs.Ythmhkgddohgoeaa

/- a device is alive. -/
namespace Go.Proofs.Ythmhkgddohgoeaa
open E
set_option maxRecDepth 100000
set_option linter.unusedVariables false
set_option linter.unusedSimpArgs false

theorem cNewP (n : Int) (h : 0 < n) : Contract Try.prog 9 [I n] [] (.ptr 0 0 0 0) [some ((⟨n, 0, true, [], -1⟩ : Dv).box 1), some (⟨n, 0, true, [], -1⟩ : Dv).map] := by
  have := cNew n
  rwa [show newD n = ⟨n, 0, true, [], -1⟩ by unfold newD; rw [if_pos h]] at this
theorem newP_ok {n : Int} (h : 0 ≤ n) (h2 : n ≤ 9223372036854775807) : Ok ⟨n, 0, true, [], -1⟩ :=
  ⟨rfl, List.nodup_nil, fun p hp => by simp at hp, fun _ => rfl, (by decide : (-1 : Int) ≤ 9223372036854775807), ⟨h, h2⟩, fun p hp => by simp at hp, (by decide : (0 : Nat) ≤ 1000000000), (by decide : (0 : Nat) ≤ 1000000000)⟩
theorem appNew (n : Int) (s : ByteArray) (b : List UInt8) (hs : s.toList ≠ []) (hb : (b.length : Int) ≤ n) : (⟨n, 0, true, [], -1⟩ : Dv).append s b = (⟨n, b.length, false, [(s, ⟨b, 0⟩)], -1⟩, 0) := by
  unfold Dv.append
  rw [if_neg (by show ¬ ((-1 : Int) = 0); decide), if_neg hs, if_neg (by show ¬ (n - 0 < _); omega)]
  simp only [Dv.went, put, look, List.find?_nil, Option.map_none, Option.getD_none, List.nil_append, Int.zero_add]
  rfl
theorem appC {d : Dv} {s : ByteArray} {b : List UInt8} {d' : Dv} {e : Int} (h : d.append s b = (d', e)) (hk : Ok d) (hb : tot d.fs + b.length ≤ 1000000000) :
    Contract Try.prog 10 [.ptr 0 0 0 0, .val (.string s), .sl 1 (b.map bR)] [d.box 1, d.map] (I e) [some (d'.box 2), none, some d'.map] := by
  have := cAppend d s b hk hb
  rw [h] at this
  exact this
theorem readC {d : Dv} {s : ByteArray} {f : Fi} (h : look d.fs s = some f) (hk : Ok d) : Contract Try.prog 18 [.ptr 0 0 0 0, .val (.string s)] [d.box 1, d.map] (.tup [.sl 1 (f.bs.map bR), Bo true]) [some (d.box 1), some d.map] := by
  have := cRead d s hk
  rw [h] at this
  exact this
theorem sA_ne : (⟨#[97]⟩ : ByteArray).toList ≠ [] := by rw [ByteArray.toList_eq]; simp
theorem app_ok {d : Dv} {s : ByteArray} {b : List UInt8} {d' : Dv} {e : Int} (h : d.append s b = (d', e)) (hk : Ok d) (hb : tot d.fs + b.length ≤ 1000000000) (hs : s.size ≤ maxLen) (hf : d.fs.length < 1000000000) : Ok d' := by
  have := append_ok (b := b) (s := s) hk hb hs hf
  rw [h] at this
  exact this
theorem ba_eqB (l : List UInt8) : ((⟨l.toArray⟩ : ByteArray).toList == (⟨l.toArray⟩ : ByteArray).toList) = true := by simp
theorem cNum_0 (n : Int)  : Contract Try.prog 13 [I n] [] (I n) ([]) :=
  vcP hmix [] [] [
      ] (by kernel_rfl)
    trivial

theorem cNum (n : Int)  : Contract Try.prog 13 [I n] [] (I n) [] := by
  exact Contract.cast (by
    first
      | rfl) (by
    first
      | rfl) (cNum_0 n  )

theorem liveA : Ok (⟨9, 2, false, [(⟨#[97]⟩, ⟨[120, 121], 0⟩)], -1⟩ : Dv) := app_ok (appNew 9 ⟨#[97]⟩ [120, 121] sA_ne (by decide)) (newP_ok (by decide) (by decide)) (by decide) (by decide) (by decide)
theorem cAlive_0   : Contract Try.prog 8 [] [] (Bo true) ([]) :=
  vcP hmix [.reg 1 [(0, [.call [] [] (.ptr 0 0 0 0) [some ((⟨9, 0, true, [], -1⟩ : Dv).box 1), some (⟨9, 0, true, [], -1⟩ : Dv).map]], none)], .reg 4 [(1, [.call [201001, 201002] [] (I 0) [some ((⟨9, 0, true, [], -1⟩ : Dv).box 1), some (⟨9, 0, true, [], -1⟩ : Dv).map]], none)], .reg 5 [(3, [.call [201001, 201002] [] (I 0) [some ((⟨9, 2, false, [(⟨#[97]⟩, ⟨[120, 121], 0⟩)], -1⟩ : Dv).box 2), none, some (⟨9, 2, false, [(⟨#[97]⟩, ⟨[120, 121], 0⟩)], -1⟩ : Dv).map]], none)], .reg 6 [(1, [.call [201001, 1004001] [] (.tup [.sl 1 ([120, 121].map bR), Bo true]) [some ((⟨9, 2, false, [(⟨#[97]⟩, ⟨[120, 121], 0⟩)], -1⟩ : Dv).box 1), some (⟨9, 2, false, [(⟨#[97]⟩, ⟨[120, 121], 0⟩)], -1⟩ : Dv).map]], none)], .reg 7 [(4, [.call [] [] (I 0) []], none), (12, [.str ⟨#[120, 121]⟩], none), (13, [], some true), (17, [.call [201001, 1004001] [] (I 2) [some ((⟨9, 2, false, [(⟨#[97]⟩, ⟨[120, 121], 0⟩)], -1⟩ : Dv).box 1), some (⟨9, 2, false, [(⟨#[97]⟩, ⟨[120, 121], 0⟩)], -1⟩ : Dv).map]], none), (22, [.call [201001, 1004001] [] (I 9) [some ((⟨9, 2, false, [(⟨#[97]⟩, ⟨[120, 121], 0⟩)], -1⟩ : Dv).box 1), some (⟨9, 2, false, [(⟨#[97]⟩, ⟨[120, 121], 0⟩)], -1⟩ : Dv).map]], none)]] [] [
      Contract Try.prog (9 : Nat) [I (9 : Int)] [] (V.ptr (0 : Nat) (0 : Nat) (0 : Nat) (0 : Nat)) [some (Obj.box [I (9 : Int), I (0 : Int), V.val (Value.int IntKind.u32 (0 : Int)), V.val (Value.int IntKind.i32 (0 : Int)), V.val (Value.int IntKind.u32 (0 : Int)), V.mref (1 : Nat), I (-1 : Int)]), some (Obj.nest (Nest.mp true (mE [])) [])],
      Contract Try.prog (14 : Nat) [V.ptr (0 : Nat) (0 : Nat) (0 : Nat) (0 : Nat)] [Obj.box [I (9 : Int), I (0 : Int), V.val (Value.int IntKind.u32 (0 : Int)), V.val (Value.int IntKind.i32 (0 : Int)), V.val (Value.int IntKind.u32 (0 : Int)), V.mref (1 : Nat), I (-1 : Int)], Obj.nest (Nest.mp true (mE [])) []] (I (0 : Int)) [some (Obj.box [I (9 : Int), I (0 : Int), V.val (Value.int IntKind.u32 (0 : Int)), V.val (Value.int IntKind.i32 (0 : Int)), V.val (Value.int IntKind.u32 (0 : Int)), V.mref (1 : Nat), I (-1 : Int)]), some (Obj.nest (Nest.mp true (mE [])) [])],
      [[V.val (Value.int IntKind.u8 (120 : Int))], [V.val (Value.int IntKind.u8 (121 : Int))]] ≠ [],
      Contract Try.prog (10 : Nat) [V.ptr (0 : Nat) (0 : Nat) (0 : Nat) (0 : Nat), Sg { data := { toList := [(97 : UInt8)] } }, V.sl (1 : Nat) [[V.val (Value.int IntKind.u8 (120 : Int))], [V.val (Value.int IntKind.u8 (121 : Int))]]] [Obj.box [I (9 : Int), I (0 : Int), V.val (Value.int IntKind.u32 (0 : Int)), V.val (Value.int IntKind.i32 (0 : Int)), V.val (Value.int IntKind.u32 (0 : Int)), V.mref (1 : Nat), I (-1 : Int)], Obj.nest (Nest.mp true (mE [])) []] (I (0 : Int)) [some (Obj.box [I (9 : Int), I (2 : Int), V.val (Value.int IntKind.u32 (1 : Int)), V.val (Value.int IntKind.i32 (0 : Int)), V.val (Value.int IntKind.u32 (0 : Int)), V.mref (2 : Nat), I (-1 : Int)]), none, some (Obj.nest (Nest.mp false (mE [({ data := { toList := [(97 : UInt8)] } }, { bs := [(120 : UInt8), (121 : UInt8)], sure := (0 : Int) })])) [])],
      Contract Try.prog (18 : Nat) [V.ptr (0 : Nat) (0 : Nat) (0 : Nat) (0 : Nat), Sg { data := { toList := [(97 : UInt8)] } }] [Obj.box [I (9 : Int), I (2 : Int), V.val (Value.int IntKind.u32 (1 : Int)), V.val (Value.int IntKind.i32 (0 : Int)), V.val (Value.int IntKind.u32 (0 : Int)), V.mref (1 : Nat), I (-1 : Int)], Obj.nest (Nest.mp false (mE [({ data := { toList := [(97 : UInt8)] } }, { bs := [(120 : UInt8), (121 : UInt8)], sure := (0 : Int) })])) []] (V.tup [V.sl (1 : Nat) [bR (120 : UInt8), bR (121 : UInt8)], Bo true]) [some (Obj.box [I (9 : Int), I (2 : Int), V.val (Value.int IntKind.u32 (1 : Int)), V.val (Value.int IntKind.i32 (0 : Int)), V.val (Value.int IntKind.u32 (0 : Int)), V.mref (1 : Nat), I (-1 : Int)]), some (Obj.nest (Nest.mp false (mE [({ data := { toList := [(97 : UInt8)] } }, { bs := [(120 : UInt8), (121 : UInt8)], sure := (0 : Int) })])) [])],
      Contract Try.prog (13 : Nat) [I (0 : Int)] [] (I (0 : Int)) [],
      [bR (120 : UInt8), bR (121 : UInt8)] = [[V.val (Value.int IntKind.u8 (120 : Int))], [V.val (Value.int IntKind.u8 (121 : Int))]],
      true = true,
      Contract Try.prog (14 : Nat) [V.ptr (0 : Nat) (0 : Nat) (0 : Nat) (0 : Nat)] [Obj.box [I (9 : Int), I (2 : Int), V.val (Value.int IntKind.u32 (1 : Int)), V.val (Value.int IntKind.i32 (0 : Int)), V.val (Value.int IntKind.u32 (0 : Int)), V.mref (1 : Nat), I (-1 : Int)], Obj.nest (Nest.mp false (mE [({ data := { toList := [(97 : UInt8)] } }, { bs := [(120 : UInt8), (121 : UInt8)], sure := (0 : Int) })])) []] (I (2 : Int)) [some (Obj.box [I (9 : Int), I (2 : Int), V.val (Value.int IntKind.u32 (1 : Int)), V.val (Value.int IntKind.i32 (0 : Int)), V.val (Value.int IntKind.u32 (0 : Int)), V.mref (1 : Nat), I (-1 : Int)]), some (Obj.nest (Nest.mp false (mE [({ data := { toList := [(97 : UInt8)] } }, { bs := [(120 : UInt8), (121 : UInt8)], sure := (0 : Int) })])) [])],
      Contract Try.prog (30 : Nat) [V.ptr (0 : Nat) (0 : Nat) (0 : Nat) (0 : Nat)] [Obj.box [I (9 : Int), I (2 : Int), V.val (Value.int IntKind.u32 (1 : Int)), V.val (Value.int IntKind.i32 (0 : Int)), V.val (Value.int IntKind.u32 (0 : Int)), V.mref (1 : Nat), I (-1 : Int)], Obj.nest (Nest.mp false (mE [({ data := { toList := [(97 : UInt8)] } }, { bs := [(120 : UInt8), (121 : UInt8)], sure := (0 : Int) })])) []] (I (9 : Int)) [some (Obj.box [I (9 : Int), I (2 : Int), V.val (Value.int IntKind.u32 (1 : Int)), V.val (Value.int IntKind.i32 (0 : Int)), V.val (Value.int IntKind.u32 (0 : Int)), V.mref (1 : Nat), I (-1 : Int)]), some (Obj.nest (Nest.mp false (mE [({ data := { toList := [(97 : UInt8)] } }, { bs := [(120 : UInt8), (121 : UInt8)], sure := (0 : Int) })])) [])]] (by kernel_rfl)
    (by
      simp only [allP]
      and_intros <;> first
        | exact cNewP 9 (by decide)
        | exact cUsed (⟨9, 0, true, [], -1⟩ : Dv)
        | exact appC (appNew 9 ⟨#[97]⟩ [120, 121] sA_ne (by decide)) (newP_ok (by decide) (by decide)) (by decide)
        | exact readC (d := (⟨9, 2, false, [(⟨#[97]⟩, ⟨[120, 121], 0⟩)], -1⟩ : Dv)) (f := ⟨[120, 121], 0⟩) (by simp [look]) liveA
        | exact cNum 0
        | exact cUsed (⟨9, 2, false, [(⟨#[97]⟩, ⟨[120, 121], 0⟩)], -1⟩ : Dv)
        | exact cRoom (⟨9, 2, false, [(⟨#[97]⟩, ⟨[120, 121], 0⟩)], -1⟩ : Dv)
        | exact List.cons_ne_nil _ _
        | rfl
        | (simp; done))

theorem cAlive   : Contract Try.prog 8 [] [] (Bo true) [] := by
  exact Contract.cast (by
    first
      | rfl) (by
    first
      | rfl) (cAlive_0   )

end Go.Proofs.Ythmhkgddohgoeaa

/- a device with one file. -/
namespace Go.Proofs.Ythmhkgddohgoeaa
open E
set_option maxRecDepth 100000
set_option linter.unusedVariables false
set_option linter.unusedSimpArgs false

def one (R : Int) (u : Nat) (s : ByteArray) (bs : List UInt8) (sure : Int) (fuse : Int) : Dv := ⟨R, u, false, [(s, ⟨bs, sure⟩)], fuse⟩
theorem one_ok {R : Int} {u : Nat} {s : ByteArray} {bs : List UInt8} {sure fuse : Int} (hu : u = bs.length) (h0 : 0 ≤ sure) (h1 : sure ≤ u) (hb : u ≤ 1000000000) (hs : s.size ≤ maxLen) (hf : fuse ≤ 9223372036854775807) (hR : 0 ≤ R ∧ R ≤ 9223372036854775807) : Ok (one R u s bs sure fuse) := by
  subst hu
  refine ⟨by simp [one, tot], by simp [one, Uniq], fun p hp => ?_, fun h => by simp [one] at h, hf, hR, fun p hp => ?_, ?_, by simp [one]⟩
  · simp only [one, List.mem_singleton] at hp; subst hp; exact ⟨h0, h1⟩
  · simp only [one, List.mem_singleton] at hp; subst hp; exact hs
  · simpa [one, tot] using hb
theorem one_look {R : Int} {u : Nat} {s : ByteArray} {bs : List UInt8} {sure fuse : Int} : look (one R u s bs sure fuse).fs s = some ⟨bs, sure⟩ := by simp [one, look]
theorem one_app {R : Int} {u : Nat} {s : ByteArray} {bs : List UInt8} {sure : Int} (b : List UInt8) (hk : Ok (one R u s bs sure (-1))) (hs : s.toList ≠ []) (hb : (b.length : Int) ≤ R - u) (ht : u + b.length ≤ 1000000000) (hu : u = bs.length) :
    Contract Try.prog 10 [.ptr 0 0 0 0, .val (.string s), .sl 1 (b.map bR)] [(one R u s bs sure (-1)).box 1, (one R u s bs sure (-1)).map] (I 0) [some ((one R (u + b.length) s (bs ++ b) sure (-1)).box 2), none, some (one R (u + b.length) s (bs ++ b) sure (-1)).map] := by
  refine appC ?_ hk (by simp [one, tot]; omega)
  unfold Dv.append
  rw [if_neg (by show ¬ ((-1 : Int) = 0); decide), if_neg hs, if_neg (by show ¬ (R - (u : Int) < _); omega), one_look]
  simp [one, put, Dv.went]
theorem one_dead {R : Int} {u : Nat} {s : ByteArray} {bs : List UInt8} {sure : Int} (b : List UInt8) (hk : Ok (one R u s bs sure 0)) (ht : u + b.length ≤ 1000000000) (hu : u = bs.length) :
    Contract Try.prog 10 [.ptr 0 0 0 0, .val (.string s), .sl 1 (b.map bR)] [(one R u s bs sure 0).box 1, (one R u s bs sure 0).map] (I 5) [some ((one R u s bs sure 0).box 2), none, some (one R u s bs sure 0).map] := by
  refine appC ?_ hk (by simp [one, tot]; omega)
  unfold Dv.append
  rw [if_pos (by rfl)]
theorem one_sync {R : Int} {u : Nat} {s : ByteArray} {bs : List UInt8} {sure : Int} (hk : Ok (one R u s bs sure (-1))) (hu : u = bs.length) :
    Contract Try.prog 12 [.ptr 0 0 0 0, .val (.string s)] [(one R u s bs sure (-1)).box 1, (one R u s bs sure (-1)).map] (I 0) [some ((one R u s bs u (-1)).box 1), some (one R u s bs u (-1)).map] := by
  have := cSync _ s hk
  unfold Dv.sync at this
  rw [if_neg (by show ¬ ((-1 : Int) = 0); decide), one_look] at this
  simpa [one, put, Dv.went, ← hu] using this
theorem one_fuse (R : Int) (u : Nat) (s : ByteArray) (bs : List UInt8) (sure : Int) :
    Contract Try.prog 11 [.ptr 0 0 0 0, I 0] [(one R u s bs sure (-1)).box 1, (one R u s bs sure (-1)).map] (.tup []) [some ((one R u s bs sure 0).box 1), some (one R u s bs sure 0).map] := cFuse (one R u s bs sure (-1)) 0
theorem one_read {R : Int} {u : Nat} {s : ByteArray} {bs : List UInt8} {sure fuse : Int} (hk : Ok (one R u s bs sure fuse)) :
    Contract Try.prog 18 [.ptr 0 0 0 0, .val (.string s)] [(one R u s bs sure fuse).box 1, (one R u s bs sure fuse).map] (.tup [.sl 1 (bs.map bR), Bo true]) [some ((one R u s bs sure fuse).box 1), some (one R u s bs sure fuse).map] := readC one_look hk
theorem sortF_one (p : ByteArray × Fi) : sortF [p] = [p] := List.mergeSort_singleton ..
theorem one_files {R : Int} {u : Nat} {s : ByteArray} {bs : List UInt8} {sure fuse : Int} (hk : Ok (one R u s bs sure fuse)) :
    Contract Try.prog 15 [.ptr 0 0 0 0] [(one R u s bs sure fuse).box 1, (one R u s bs sure fuse).map] (.sl 3 [[.val (.string s), .sl 1 (bs.map bR), I sure]]) [some ((one R u s bs sure fuse).box 1), some (one R u s bs sure fuse).map] := by
  have := cFiles _ hk
  rwa [show sortF (one R u s bs sure fuse).fs = [(s, ⟨bs, sure⟩)] from sortF_one _] at this
theorem one_crash {R : Int} {u : Nat} {s : ByteArray} {bs : List UInt8} {sure fuse : Int} (p : Int) (n : Nat) (hk : Ok (one R u s bs sure fuse)) (hu : u = bs.length) (hn : crN ⟨bs, sure⟩ (some p) = n) :
    Contract Try.prog 17 [.ptr 0 0 0 0, .sl 1 ([p].map iR)] [(one R u s bs sure fuse).box 1, (one R u s bs sure fuse).map] (.tup []) [some ((one R n s (bs.take n) n (-1)).box 1), some (one R n s (bs.take n) n (-1)).map] := by
  have := cCrash _ [p] hk
  have e : (one R u s bs sure fuse).crash [p] = one R n s (bs.take n) n (-1) := by
    unfold Dv.crash namesF
    rw [show sortF (one R u s bs sure fuse).fs = [(s, ⟨bs, sure⟩)] from sortF_one _]
    simp only [List.map_cons, List.map_nil, crashL, crash1]
    rw [show look (Dv.mk (one R u s bs sure fuse).room (one R u s bs sure fuse).used (one R u s bs sure fuse).nl (one R u s bs sure fuse).fs (-1)).fs s = some ⟨bs, sure⟩ from one_look]
    simp only [List.getElem?_cons_zero, hn, cut, one, put, beq_self_eq_true, if_true, Int.toNat_natCast]
    congr 1
    omega
  rwa [e] at this
theorem one_new (R : Int) (s : ByteArray) (b : List UInt8) (hs : s.toList ≠ []) (hb : (b.length : Int) ≤ R) (ht : b.length ≤ 1000000000) (h0 : 0 ≤ R) (h1 : R ≤ 9223372036854775807) :
    Contract Try.prog 10 [.ptr 0 0 0 0, .val (.string s), .sl 1 (b.map bR)] [(⟨R, 0, true, [], -1⟩ : Dv).box 1, (⟨R, 0, true, [], -1⟩ : Dv).map] (I 0) [some ((one R b.length s b 0 (-1)).box 2), none, some (one R b.length s b 0 (-1)).map] :=
  appC (appNew R s b hs hb) (newP_ok h0 h1) (by simpa [tot] using ht)
theorem renC {d : Dv} {s t : ByteArray} {d' : Dv} {e : Int} (h : d.rename s t = (d', e)) (hk : Ok d) :
    Contract Try.prog 19 [.ptr 0 0 0 0, .val (.string s), .val (.string t)] [d.box 1, d.map] (I e) [some (d'.box 1), some d'.map] := by
  have := cRename d s t hk
  rw [h] at this
  exact this
theorem strRows_bR (l : List UInt8) : l.map bR = strRows ⟨l.toArray⟩ := by simp [strRows, bR]
theorem ba_app (a b : List UInt8) : (⟨a.toArray⟩ : ByteArray) ++ ⟨b.toArray⟩ = ⟨(a ++ b).toArray⟩ := by
  apply ByteArray.ext
  simp
theorem ba_ne (b : UInt8) (l : List UInt8) : (⟨(b :: l).toArray⟩ : ByteArray).toList ≠ [] := by rw [ByteArray.toList_eq]; simp
end Go.Proofs.Ythmhkgddohgoeaa

/- Slices behind a variable: under another name, no more spoken of, new where there was none. -/
namespace Go.Proofs.Ythmhkgddohgoeaa.E
open Go
set_option linter.unusedSimpArgs false

/-- What is said of the second object need not be said. -/
theorem Contract.drop1 {P : Program} {f : FuncId} {args : List V} {objs : List E.Obj} {r : V} {a o : Option E.Obj} {os : List (Option E.Obj)} (h : Contract P f args objs r (a :: o :: os)) : Contract P f args objs r (a :: none :: os) := by
  refine ⟨h.goes, fun w G X τ vals hm hX ha => Calls.mono (h.calls w G X τ vals hm hX ha) ?_⟩
  rintro e w' ⟨v, G', τ', rfl, h1, h2, h3, h4⟩
  have sub : ∀ i p, objsAt' (a :: none :: os) i = some p → objsAt' (a :: o :: os) i = some p := by
    intro i p hp
    match i, hp with
    | 0, hp => simpa [objsAt'] using hp
    | 1, hp => simp [objsAt'] at hp
    | i + 2, hp => simpa [objsAt'] using hp
  exact ⟨v, G', τ', rfl, h1, h2, h3, h4.gold, fun i p hp => h4.ok i p (sub i p hp), fun i p b hp => h4.own i p b (sub i p hp), fun i j p q b hp hq => h4.inj i j p q b (sub i p hp) (sub j q hq), Sub.less h4.sub (fun i p hp _ => sub i p hp) (fun i p hp => ⟨p, sub i p hp⟩)⟩

/-- A box whose cell names slice 1 names slice 2, which is the same. -/
theorem Contract.renArr {P : Program} {f : FuncId} {args : List V} {objs : List E.Obj} {r : V} {cells cells' : List V} {n : Nat} {rows : List (List V)} (hlen : objs.length = 2)
    (h : Contract P f args objs r [some (.box cells), some (.arr n rows)])
    (hr : ∀ {w : World} {G : Nat → Prop} {τ τ' : Nat → Gh} {x : Value}, τ' 0 = τ 0 → τ' 2 = τ 1 → r.rep w G τ x → r.rep w G τ' x)
    (hc : ∀ {w : World} {G : Nat → Prop} {τ τ' : Nat → Gh} {xs : List Value}, τ' 0 = τ 0 → τ' 2 = τ 1 → repL w G τ cells xs → repL w G τ' cells' xs) :
    Contract P f args objs r [some (.box cells'), none, some (.arr n rows)] := by
  refine ⟨h.goes, fun w G X τ vals hm hX ha => Calls.mono (h.calls w G X τ vals hm hX ha) ?_⟩
  rintro e w' ⟨v, G', τ', rfl, h1, h2, h3, h4⟩
  have e0 : setGh τ' 2 (τ' 1) 0 = τ' 0 := setGh_ne (by omega)
  have e2 : setGh τ' 2 (τ' 1) 2 = τ' 1 := setGh_same
  have hcase : ∀ i o, objsAt' [some (.box cells'), none, some (.arr n rows)] i = some o → (i = 0 ∧ o = .box cells') ∨ (i = 2 ∧ o = .arr n rows) := by
    intro i o ho
    match i, ho with
    | 0, ho => left; simp [objsAt'] at ho; exact ⟨rfl, ho.symm⟩
    | 1, ho => simp [objsAt'] at ho
    | 2, ho => right; simp [objsAt'] at ho; exact ⟨rfl, ho.symm⟩
    | i + 3, ho => simp [objsAt'] at ho
  refine ⟨v, G', setGh τ' 2 (τ' 1), rfl, h1, fun i hi => ?_, hr e0 e2 h3, ?_⟩
  · rw [setGh_ne (by omega)]; exact h2 i hi
  · refine Mem.rename (fun i => if i = 2 then 1 else i) h4 (fun i o ho => ?_) (fun i o ho hp => ?_) (fun i j o p ho hp he => ?_)
    · rcases hcase i o ho with ⟨rfl, rfl⟩ | ⟨rfl, rfl⟩
      · refine ⟨⟨_, rfl⟩, e0, ?_⟩
        have := h4.ok 0 _ rfl
        simp only [Obj.ok, e0] at this ⊢
        obtain ⟨b, xs, t, fz, k1, k2, k3, k4, k5⟩ := this
        exact ⟨b, xs, t, fz, k1, k2, k3, k4, hc e0 e2 k5⟩
      · refine ⟨⟨_, rfl⟩, e2, ?_⟩
        exact Obj.ok_name rfl e2 (h4.ok 1 _ rfl)
    · rcases hcase i o ho with ⟨rfl, rfl⟩ | ⟨rfl, rfl⟩
      · cases hp
      · cases hp
    · rcases hcase i o ho with ⟨rfl, rfl⟩ | ⟨rfl, rfl⟩ <;> rcases hcase j p hp with ⟨rfl, rfl⟩ | ⟨rfl, rfl⟩ <;> simp at he ⊢

/-- A new box with a slice that is nil: the slice gets a name. -/
theorem Contract.nilSl {P : Program} {f : FuncId} {args : List V} {r : V} {cells cells' : List V} {n : Nat}
    (h : Contract P f args [] r [some (.box cells)])
    (hr : ∀ {w : World} {G : Nat → Prop} {τ τ' : Nat → Gh} {x : Value}, τ' 0 = τ 0 → r.rep w G τ x → r.rep w G τ' x) (hid : ∀ j ∈ idsL cells, j = 0)
    (hc : ∀ {w : World} {G : Nat → Prop} {τ τ' : Nat → Gh} {xs : List Value}, τ' 0 = τ 0 → (τ' 1).hdr = .slice none 0 0 → repL w G τ cells xs → repL w G τ' cells' xs) :
    Contract P f args [] r [some (.box cells'), some (.arr n [])] := by
  refine ⟨h.goes, fun w G X τ vals hm hX ha => Calls.mono (h.calls w G X τ vals hm hX ha) ?_⟩
  rintro e w' ⟨v, G', τ', rfl, h1, h2, h3, h4⟩
  have e0 : setGh τ' 1 ⟨none, none, 0, 0⟩ 0 = τ' 0 := setGh_ne (by omega)
  have e1 : (setGh τ' 1 ⟨none, none, 0, 0⟩ 1).hdr = .slice none 0 0 := by rw [setGh_same]; rfl
  have hcl : Closed [0] (objsAt' [some (.box cells)]) := by
    intro i o ho
    match i, ho with
    | 0, ho => simp [objsAt'] at ho; subst ho; exact ⟨by simp, fun j hj => by simp [hid j (by simpa [idsObj] using hj)]⟩
    | i + 1, ho => simp [objsAt'] at ho
  obtain ⟨σ, hσ⟩ := h4.sub
  have m1 := (Mem.adopt (site := 1) (g := ⟨none, none, 0, 0⟩) h4 hσ hcl (by simp) (o := E.Obj.arr n []) (by simp only [Obj.ok, rowsOk, setGh_same]; exact ⟨rfl, Nat.le_refl _, .inl ⟨trivial, trivial, trivial⟩⟩) rfl (fun b hb => by simp at hb)).1
  have hcase : ∀ i o, objsAt' [some (.box cells'), some (.arr n [])] i = some o → (i = 0 ∧ o = .box cells') ∨ (i = 1 ∧ o = .arr n []) := by
    intro i o ho
    match i, ho with
    | 0, ho => left; simp [objsAt'] at ho; exact ⟨rfl, ho.symm⟩
    | 1, ho => right; simp [objsAt'] at ho; exact ⟨rfl, ho.symm⟩
    | i + 2, ho => simp [objsAt'] at ho
  refine ⟨v, G', setGh τ' 1 ⟨none, none, 0, 0⟩, rfl, h1, fun i hi => by simp at hi, hr e0 h3, ?_⟩
  refine Mem.rename (fun i => i) m1 (fun i o ho => ?_) (fun i o ho hp => ?_) (fun i j o p _ _ he => he)
  · rcases hcase i o ho with ⟨rfl, rfl⟩ | ⟨rfl, rfl⟩
    · refine ⟨⟨_, rfl⟩, rfl, ?_⟩
      have := h4.ok 0 _ rfl
      simp only [Obj.ok, e0] at this ⊢
      obtain ⟨b, xs, t, fz, k1, k2, k3, k4, k5⟩ := this
      exact ⟨b, xs, t, fz, k1, k2, k3, k4, hc e0 e1 k5⟩
    · exact ⟨⟨_, rfl⟩, rfl, m1.ok 1 _ rfl⟩
  · rcases hcase i o ho with ⟨rfl, rfl⟩ | ⟨rfl, rfl⟩
    · cases hp
    · cases hp
end Go.Proofs.Ythmhkgddohgoeaa.E

/- the reference's device: what only looks. -/
namespace Go.Proofs.Ythmhkgddohgoeaa
open E
set_option maxRecDepth 100000
set_option linter.unusedVariables false
set_option linter.unusedSimpArgs false

structure Rv where
  room : Int
  fuse : Int
  F : Fs
def Rv.box (r : Rv) (m : Nat) : E.Obj := .box [I r.room, I r.fuse, .own m]
def Rv.arr (r : Rv) : E.Obj := .arr 3 (r.F.map fR)
def Rv.went (r : Rv) : Rv := { r with fuse := bif decide (r.fuse > 0) then r.fuse - 1 else r.fuse }
def fnS (r : Rv) (s : ByteArray) (i : Nat) : SL := ⟨[(0, .ptr 0 0 0 0), (1, .val (.string s)), (5, I i)], [(0, r.box 1), (1, r.arr)], [0, 1, 0, 1]⟩
def fnT (r : Rv) (i : Nat) : SL := ⟨[(4, I i)], [(0, r.box 1), (1, r.arr)], [0, 1, 0, 1]⟩
def usS (r : Rv) (a i : Nat) : SL := ⟨[(0, .ptr 0 0 0 0), (3, I a), (4, I i)], [(0, r.box 1), (1, r.arr)], [0, 1, 0, 1]⟩
def capI (n lo hi : Int) : Int := bif decide (n < lo) then lo else bif decide (n > hi) then hi else n
noncomputable def fnB : Code := codeAt Try.prog 44 [true, false, true, false, false]

noncomputable def usB : Code := codeAt Try.prog 29 [true, true, false, true, false, false]

theorem cCap_0 (n lo hi : Int)  (tq0 : (decide (n < lo)) = true) : Contract Try.prog 43 [I n, I lo, I hi] [] (I lo) ([]) :=
  vcP hmix [.reg 1 [(3, [], some true)]] [] [
      decide (n < lo) = true] (by kernel_rfl)
    (by
      have d0 := tq0
      try simp only [Int.ofNat_eq_natCast, List.length_map, Bool.not_eq_true', Bool.not_eq_false', decide_eq_true_eq, decide_eq_false_iff_not] at d0
      simp only [allP]
      and_intros <;> first
        | omega)

theorem cCap_1 (n lo hi : Int)  (tq0 : (decide (n < lo)) = false) (tq1 : (decide (n > hi)) = true) : Contract Try.prog 43 [I n, I lo, I hi] [] (I hi) ([]) :=
  vcP hmix [.reg 1 [(3, [], some false)], .reg 3 [(3, [], some true)]] [] [
      decide (n < lo) = false,
      decide (n > hi) = true] (by kernel_rfl)
    (by
      have d0 := tq0
      have d1 := tq1
      try simp only [Int.ofNat_eq_natCast, List.length_map, Bool.not_eq_true', Bool.not_eq_false', decide_eq_true_eq, decide_eq_false_iff_not] at d0 d1
      simp only [allP]
      and_intros <;> first
        | omega)

theorem cCap_2 (n lo hi : Int)  (tq0 : (decide (n < lo)) = false) (tq1 : (decide (n > hi)) = false) : Contract Try.prog 43 [I n, I lo, I hi] [] (I n) ([]) :=
  vcP hmix [.reg 1 [(3, [], some false)], .reg 3 [(3, [], some false)]] [] [
      decide (n < lo) = false,
      decide (n > hi) = false] (by kernel_rfl)
    (by
      have d0 := tq0
      have d1 := tq1
      try simp only [Int.ofNat_eq_natCast, List.length_map, Bool.not_eq_true', Bool.not_eq_false', decide_eq_true_eq, decide_eq_false_iff_not] at d0 d1
      simp only [allP]
      and_intros <;> first
        | omega)

theorem cCap (n lo hi : Int)  : Contract Try.prog 43 [I n, I lo, I hi] [] (I (capI n lo hi)) [] := by
  rcases tf (decide (n < lo)) with tq0 | tq0
  · exact Contract.cast (by
      first
        | (simp only [capI, tq0, cond_true, cond_false]; done)) (by
      first
        | rfl) (cCap_0 n lo hi  tq0)
  · rcases tf (decide (n > hi)) with tq1 | tq1
    · exact Contract.cast (by
        first
          | (simp only [capI, tq0, tq1, cond_true, cond_false]; done)) (by
        first
          | rfl) (cCap_1 n lo hi  tq0 tq1)
    · exact Contract.cast (by
        first
          | (simp only [capI, tq0, tq1, cond_true, cond_false]; done)) (by
        first
          | rfl) (cCap_2 n lo hi  tq0 tq1)

theorem cRWent_0 (r : Rv) (hf : r.fuse ≤ 9223372036854775807) (tq0 : (decide (Rv.fuse r > (0 : Int))) = true) : Contract Try.prog 45 [.ptr 0 0 0 0] [r.box 1, r.arr] (V.tup []) ([some (Obj.box [I (Rv.room r), I (Rv.fuse r + (-1 : Int)), V.own (1 : Nat)]), some (Obj.arr (3 : Nat) (List.map fR (Rv.F r)))]) :=
  vcP hmix [.reg 0 [(4, [], some true)], .reg 1 [(4, [.be (I (r.fuse - 1))], none)]] [] [
      decide (Rv.fuse r > (0 : Int)) = true,
      IntKind.wrap IntKind.i64 (Rv.fuse r + (-1 : Int)) = Rv.fuse r + (-1 : Int)] (by kernel_rfl)
    (by
      have d0 := tq0
      try simp only [Int.ofNat_eq_natCast, List.length_map, Bool.not_eq_true', Bool.not_eq_false', decide_eq_true_eq, decide_eq_false_iff_not] at d0
      simp only [allP]
      and_intros <;> first
        | omega
        | exact i64_small (by omega))

theorem cRWent_1 (r : Rv) (hf : r.fuse ≤ 9223372036854775807) (tq0 : (decide (Rv.fuse r > (0 : Int))) = false) : Contract Try.prog 45 [.ptr 0 0 0 0] [r.box 1, r.arr] (V.tup []) ([some (Obj.box [I (Rv.room r), I (Rv.fuse r), V.own (1 : Nat)]), some (Obj.arr (3 : Nat) (List.map fR (Rv.F r)))]) :=
  vcP hmix [.reg 0 [(4, [], some false)]] [] [
      decide (Rv.fuse r > (0 : Int)) = false] (by kernel_rfl)
    (by
      have d0 := tq0
      try simp only [Int.ofNat_eq_natCast, List.length_map, Bool.not_eq_true', Bool.not_eq_false', decide_eq_true_eq, decide_eq_false_iff_not] at d0
      simp only [allP]
      and_intros <;> first
        | omega)

theorem cRWent (r : Rv) (hf : r.fuse ≤ 9223372036854775807) : Contract Try.prog 45 [.ptr 0 0 0 0] [r.box 1, r.arr] (.tup []) [some (r.went.box 1), some r.went.arr] := by
  rcases tf (decide (Rv.fuse r > (0 : Int))) with tq0 | tq0
  · exact Contract.cast (by
      first
        | rfl) (by
      first
        | (simp only [Rv.went, Rv.box, Rv.arr, tq0, cond_true, cond_false]; rfl)) (cRWent_0 r hf tq0)
  · exact Contract.cast (by
      first
        | rfl) (by
      first
        | (simp only [Rv.went, Rv.box, Rv.arr, tq0, cond_true, cond_false]; done)) (cRWent_1 r hf tq0)

theorem cRRoom_0 (r : Rv)  : Contract Try.prog 31 [.ptr 0 0 0 0] [r.box 1, r.arr] (I (Rv.room r)) ([some (Obj.box [I (Rv.room r), I (Rv.fuse r), V.own (1 : Nat)]), some (Obj.arr (3 : Nat) (List.map fR (Rv.F r)))]) :=
  vcP hmix [] [] [
      ] (by kernel_rfl)
    trivial

theorem cRRoom (r : Rv)  : Contract Try.prog 31 [.ptr 0 0 0 0] [r.box 1, r.arr] (I r.room) [some (r.box 1), some r.arr] := by
  exact Contract.cast (by
    first
      | rfl) (by
    first
      | rfl) (cRRoom_0 r  )

theorem fnG_0 (r : Rv) (s : ByteArray) (x : ByteArray × Fi) (i : Nat) (hx : r.F[i]? = some x) (hi : i < r.F.length) (hl : r.F.length ≤ 1000000000) (hb : (ByteArray.toList x.1 == ByteArray.toList s) = false) : CodeC Try.prog 2 26 fnB (fnS r s i) (Ex.normal) ({ env := [((0 : Nat), V.ptr (0 : Nat) (0 : Nat) (0 : Nat) (0 : Nat)), ((1 : Nat), Sg s), ((5 : Nat), I (Int.ofNat (i + (1 : Nat))))], st := [((0 : Nat), Obj.box [I (Rv.room r), I (Rv.fuse r), V.own (1 : Nat)]), ((1 : Nat), Obj.arr (3 : Nat) (List.map fR (Rv.F r)))], ids := [(0 : Nat), (1 : Nat), (0 : Nat), (1 : Nat)] }) :=
  runP hmix [.reg 2 [(6, [], some true)], .reg 4 [(7, [.row (fR x)], none), (9, [], some false)], .reg 3 [(1, [.be (I ((i + 1 : Nat) : Int))], none)]] ⟨[0, 1, 5], [(0, 0), (1, 1)], []⟩ [
      decide (Int.ofNat i < Int.ofNat (List.length (List.map fR (Rv.F r)))) = true,
      (0 : Int) ≤ Int.ofNat i,
      Int.ofNat i < Int.ofNat (List.length (List.map fR (Rv.F r))),
      (List.map fR (Rv.F r))[i]? = some (fR x),
      (ByteArray.toList (Prod.fst x) == ByteArray.toList s) = false,
      IntKind.wrap IntKind.i64 (Int.ofNat (i + (1 : Nat))) = Int.ofNat (i + (1 : Nat))] (by kernel_rfl)
    (by
      simp only [allP]
      and_intros <;> first
        | omega
        | exact i64_small (by simp; omega)
        | (simp [hx]; done)
        | (simp; omega))

theorem fnG (r : Rv) (s : ByteArray) (x : ByteArray × Fi) (i : Nat) (hx : r.F[i]? = some x) (hi : i < r.F.length) (hl : r.F.length ≤ 1000000000) (hb : (ByteArray.toList x.1 == ByteArray.toList s) = false)  : CodeC Try.prog 2 26 fnB (fnS r s i) .normal (fnS r s (i + 1)) := by
  exact CodeC.cast (by
    first
      | rfl) (fnG_0 r s x i hx hi hl hb )

theorem fnP_0 (r : Rv) (s : ByteArray) (x : ByteArray × Fi) (i : Nat) (hx : r.F[i]? = some x) (hi : i < r.F.length) (hl : r.F.length ≤ 1000000000) (hb : (ByteArray.toList x.1 == ByteArray.toList s) = true) : CodeC Try.prog 2 26 fnB (fnS r s i) (Ex.ret) ({ env := [((4 : Nat), I (Int.ofNat i))], st := [((0 : Nat), Obj.box [I (Rv.room r), I (Rv.fuse r), V.own (1 : Nat)]), ((1 : Nat), Obj.arr (3 : Nat) (List.map fR (Rv.F r)))], ids := [(0 : Nat), (1 : Nat), (0 : Nat), (1 : Nat)] }) :=
  runP hmix [.reg 2 [(6, [], some true)], .reg 4 [(7, [.row (fR x)], none), (9, [], some true)]] ⟨[4], [(0, 0), (1, 1)], []⟩ [
      decide (Int.ofNat i < Int.ofNat (List.length (List.map fR (Rv.F r)))) = true,
      (0 : Int) ≤ Int.ofNat i,
      Int.ofNat i < Int.ofNat (List.length (List.map fR (Rv.F r))),
      (List.map fR (Rv.F r))[i]? = some (fR x),
      (ByteArray.toList (Prod.fst x) == ByteArray.toList s) = true] (by kernel_rfl)
    (by
      simp only [allP]
      and_intros <;> first
        | omega
        | (simp [hx]; done)
        | (simp; omega))

theorem fnP (r : Rv) (s : ByteArray) (x : ByteArray × Fi) (i : Nat) (hx : r.F[i]? = some x) (hi : i < r.F.length) (hl : r.F.length ≤ 1000000000) (hb : (ByteArray.toList x.1 == ByteArray.toList s) = true)  : CodeC Try.prog 2 26 fnB (fnS r s i) .ret (fnT r i) := by
  exact CodeC.cast (by
    first
      | rfl) (fnP_0 r s x i hx hi hl hb )

theorem fnE_0 (r : Rv) (s : ByteArray) (i : Nat) (h : r.F.length ≤ i) : CodeC Try.prog 2 26 fnB (fnS r s i) (Ex.exit (0 : Nat)) ({ env := [((0 : Nat), V.ptr (0 : Nat) (0 : Nat) (0 : Nat) (0 : Nat)), ((1 : Nat), Sg s), ((5 : Nat), I (Int.ofNat i))], st := [((0 : Nat), Obj.box [I (Rv.room r), I (Rv.fuse r), V.own (1 : Nat)]), ((1 : Nat), Obj.arr (3 : Nat) (List.map fR (Rv.F r)))], ids := [(0 : Nat), (1 : Nat), (0 : Nat), (1 : Nat)] }) :=
  runP hmix [.reg 2 [(6, [], some false)]] ⟨[0, 1, 5], [(0, 0), (1, 1)], []⟩ [
      decide (Int.ofNat i < Int.ofNat (List.length (List.map fR (Rv.F r)))) = false] (by kernel_rfl)
    (by
      simp only [allP]
      and_intros <;> first
        | (simp; omega))

theorem fnE (r : Rv) (s : ByteArray) (i : Nat) (h : r.F.length ≤ i)  : CodeC Try.prog 2 26 fnB (fnS r s i) (.exit 0) (fnS r s i) := by
  exact CodeC.cast (by
    first
      | rfl) (fnE_0 r s i h )

theorem cFindA_0 (r : Rv) (s : ByteArray) (i : Nat) (hL : LoopC Try.prog 2 26 fnB (fnS r s 0) .ret (fnT r i)) : Contract Try.prog 44 [.ptr 0 0 0 0, .val (.string s)] [r.box 1, r.arr] (I (Int.ofNat i)) ([some (Obj.box [I (Rv.room r), I (Rv.fuse r), V.own (1 : Nat)]), some (Obj.arr (3 : Nat) (List.map fR (Rv.F r)))]) :=
  vcP hmix [.cut ⟨[0, 1, 5], [(0, 0), (1, 1)], []⟩ .ret (fnT r i)] [] [
      LoopC Try.prog (2 : Nat) (26 : Nat) fnB { env := [((0 : Nat), V.ptr (0 : Nat) (0 : Nat) (0 : Nat) (0 : Nat)), ((1 : Nat), Sg s), ((5 : Nat), I (0 : Int))], st := [((0 : Nat), Obj.box [I (Rv.room r), I (Rv.fuse r), V.own (1 : Nat)]), ((1 : Nat), Obj.arr (3 : Nat) (List.map fR (Rv.F r)))], ids := [(0 : Nat), (1 : Nat), (0 : Nat), (1 : Nat)] } Ex.ret { env := [((4 : Nat), I (Int.ofNat i))], st := [((0 : Nat), Obj.box [I (Rv.room r), I (Rv.fuse r), V.own (1 : Nat)]), ((1 : Nat), Obj.arr (3 : Nat) (List.map fR (Rv.F r)))], ids := [(0 : Nat), (1 : Nat), (0 : Nat), (1 : Nat)] }] (by kernel_rfl)
    (by
      simp only [allP]
      and_intros <;> first
        | exact hL)

theorem cFindA (r : Rv) (s : ByteArray) (i : Nat) (hL : LoopC Try.prog 2 26 fnB (fnS r s 0) .ret (fnT r i)) : Contract Try.prog 44 [.ptr 0 0 0 0, .val (.string s)] [r.box 1, r.arr] (I i) [some (r.box 1), some r.arr] := by
  exact Contract.cast (by
    first
      | rfl) (by
    first
      | rfl) (cFindA_0 r s i hL )

theorem cFindB_0 (r : Rv) (s : ByteArray) (i : Nat) (hL : LoopC Try.prog 2 26 fnB (fnS r s 0) (.exit 0) (fnS r s i)) : Contract Try.prog 44 [.ptr 0 0 0 0, .val (.string s)] [r.box 1, r.arr] (I (-1 : Int)) ([some (Obj.box [I (Rv.room r), I (Rv.fuse r), V.own (1 : Nat)]), some (Obj.arr (3 : Nat) (List.map fR (Rv.F r)))]) :=
  vcP hmix [.cut ⟨[0, 1, 5], [(0, 0), (1, 1)], []⟩ (.exit 0) (fnS r s i)] [] [
      LoopC Try.prog (2 : Nat) (26 : Nat) fnB { env := [((0 : Nat), V.ptr (0 : Nat) (0 : Nat) (0 : Nat) (0 : Nat)), ((1 : Nat), Sg s), ((5 : Nat), I (0 : Int))], st := [((0 : Nat), Obj.box [I (Rv.room r), I (Rv.fuse r), V.own (1 : Nat)]), ((1 : Nat), Obj.arr (3 : Nat) (List.map fR (Rv.F r)))], ids := [(0 : Nat), (1 : Nat), (0 : Nat), (1 : Nat)] } (Ex.exit (0 : Nat)) { env := [((0 : Nat), V.ptr (0 : Nat) (0 : Nat) (0 : Nat) (0 : Nat)), ((1 : Nat), Sg s), ((5 : Nat), I (Int.ofNat i))], st := [((0 : Nat), Obj.box [I (Rv.room r), I (Rv.fuse r), V.own (1 : Nat)]), ((1 : Nat), Obj.arr (3 : Nat) (List.map fR (Rv.F r)))], ids := [(0 : Nat), (1 : Nat), (0 : Nat), (1 : Nat)] }] (by kernel_rfl)
    (by
      simp only [allP]
      and_intros <;> first
        | exact hL)

theorem cFindB (r : Rv) (s : ByteArray) (i : Nat) (hL : LoopC Try.prog 2 26 fnB (fnS r s 0) (.exit 0) (fnS r s i)) : Contract Try.prog 44 [.ptr 0 0 0 0, .val (.string s)] [r.box 1, r.arr] (I (-1)) [some (r.box 1), some r.arr] := by
  exact Contract.cast (by
    first
      | rfl) (by
    first
      | rfl) (cFindB_0 r s i hL )

theorem usG_0 (r : Rv) (x : ByteArray × Fi) (a i : Nat) (hx : r.F[i]? = some x) (hi : i < r.F.length) (hl : r.F.length ≤ 1000000000) (ha : a ≤ 1000000000) (hb : x.2.bs.length ≤ 1000000000) : CodeC Try.prog 2 26 usB (usS r a i) (Ex.normal) ({ env := [((0 : Nat), V.ptr (0 : Nat) (0 : Nat) (0 : Nat) (0 : Nat)), ((3 : Nat), I (Int.ofNat (a + List.length (Fi.bs (Prod.snd x))))), ((4 : Nat), I (Int.ofNat (i + (1 : Nat))))], st := [((0 : Nat), Obj.box [I (Rv.room r), I (Rv.fuse r), V.own (1 : Nat)]), ((1 : Nat), Obj.arr (3 : Nat) (List.map fR (Rv.F r)))], ids := [(0 : Nat), (1 : Nat), (0 : Nat), (1 : Nat)] }) :=
  runP hmix [.reg 3 [(6, [], some true)], .reg 5 [(8, [.row (fR x)], none), (10, [.be (I ((a + x.2.bs.length : Nat) : Int))], none)], .reg 4 [(1, [.be (I ((i + 1 : Nat) : Int))], none)]] ⟨[0, 3, 4], [(0, 0), (1, 1)], []⟩ [
      decide (Int.ofNat i < Int.ofNat (List.length (List.map fR (Rv.F r)))) = true,
      (0 : Int) ≤ Int.ofNat i,
      Int.ofNat i < Int.ofNat (List.length (List.map fR (Rv.F r))),
      (List.map fR (Rv.F r))[i]? = some (fR x),
      IntKind.wrap IntKind.i64 (Int.ofNat (a + List.length (List.map bR (Fi.bs (Prod.snd x))))) = Int.ofNat (a + List.length (Fi.bs (Prod.snd x))),
      IntKind.wrap IntKind.i64 (Int.ofNat (i + (1 : Nat))) = Int.ofNat (i + (1 : Nat))] (by kernel_rfl)
    (by
      simp only [allP]
      and_intros <;> first
        | (rw [List.length_map]; exact i64_small (by simp only [Int.ofNat_eq_natCast]; omega))
        | exact i64_small (by simp; omega)
        | (simp [hx]; done)
        | (simp; omega))

theorem usG (r : Rv) (x : ByteArray × Fi) (a i : Nat) (hx : r.F[i]? = some x) (hi : i < r.F.length) (hl : r.F.length ≤ 1000000000) (ha : a ≤ 1000000000) (hb : x.2.bs.length ≤ 1000000000)  : CodeC Try.prog 2 26 usB (usS r a i) .normal (usS r (a + x.2.bs.length) (i + 1)) := by
  exact CodeC.cast (by
    first
      | rfl) (usG_0 r x a i hx hi hl ha hb )

theorem usE_0 (r : Rv) (a i : Nat) (h : r.F.length ≤ i) : CodeC Try.prog 2 26 usB (usS r a i) (Ex.exit (0 : Nat)) ({ env := [((0 : Nat), V.ptr (0 : Nat) (0 : Nat) (0 : Nat) (0 : Nat)), ((3 : Nat), I (Int.ofNat a)), ((4 : Nat), I (Int.ofNat i))], st := [((0 : Nat), Obj.box [I (Rv.room r), I (Rv.fuse r), V.own (1 : Nat)]), ((1 : Nat), Obj.arr (3 : Nat) (List.map fR (Rv.F r)))], ids := [(0 : Nat), (1 : Nat), (0 : Nat), (1 : Nat)] }) :=
  runP hmix [.reg 3 [(6, [], some false)]] ⟨[0, 3, 4], [(0, 0), (1, 1)], []⟩ [
      decide (Int.ofNat i < Int.ofNat (List.length (List.map fR (Rv.F r)))) = false] (by kernel_rfl)
    (by
      simp only [allP]
      and_intros <;> first
        | (simp; omega))

theorem usE (r : Rv) (a i : Nat) (h : r.F.length ≤ i)  : CodeC Try.prog 2 26 usB (usS r a i) (.exit 0) (usS r a i) := by
  exact CodeC.cast (by
    first
      | rfl) (usE_0 r a i h )

theorem cUsedA_0 (r : Rv) (a i : Nat) (hL : LoopC Try.prog 2 26 usB (usS r 0 0) (.exit 0) (usS r a i)) : Contract Try.prog 29 [.ptr 0 0 0 0] [r.box 1, r.arr] (I (Int.ofNat a)) ([some (Obj.box [I (Rv.room r), I (Rv.fuse r), V.own (1 : Nat)]), some (Obj.arr (3 : Nat) (List.map fR (Rv.F r)))]) :=
  vcP hmix [.cut ⟨[0, 3, 4], [(0, 0), (1, 1)], []⟩ (.exit 0) (usS r a i)] [] [
      LoopC Try.prog (2 : Nat) (26 : Nat) usB { env := [((0 : Nat), V.ptr (0 : Nat) (0 : Nat) (0 : Nat) (0 : Nat)), ((3 : Nat), I (0 : Int)), ((4 : Nat), I (0 : Int))], st := [((0 : Nat), Obj.box [I (Rv.room r), I (Rv.fuse r), V.own (1 : Nat)]), ((1 : Nat), Obj.arr (3 : Nat) (List.map fR (Rv.F r)))], ids := [(0 : Nat), (1 : Nat), (0 : Nat), (1 : Nat)] } (Ex.exit (0 : Nat)) { env := [((0 : Nat), V.ptr (0 : Nat) (0 : Nat) (0 : Nat) (0 : Nat)), ((3 : Nat), I (Int.ofNat a)), ((4 : Nat), I (Int.ofNat i))], st := [((0 : Nat), Obj.box [I (Rv.room r), I (Rv.fuse r), V.own (1 : Nat)]), ((1 : Nat), Obj.arr (3 : Nat) (List.map fR (Rv.F r)))], ids := [(0 : Nat), (1 : Nat), (0 : Nat), (1 : Nat)] }] (by kernel_rfl)
    (by
      simp only [allP]
      and_intros <;> first
        | exact hL)

theorem cUsedA (r : Rv) (a i : Nat) (hL : LoopC Try.prog 2 26 usB (usS r 0 0) (.exit 0) (usS r a i)) : Contract Try.prog 29 [.ptr 0 0 0 0] [r.box 1, r.arr] (I a) [some (r.box 1), some r.arr] := by
  exact Contract.cast (by
    first
      | rfl) (by
    first
      | rfl) (cUsedA_0 r a i hL )

theorem fnLoopA (r : Rv) (s : ByteArray) (k : Nat) (hk : fat r.F s = some k) (hl : r.F.length ≤ 1000000000) : ∀ (m i : Nat), i + m = k → LoopC Try.prog 2 26 fnB (fnS r s i) .ret (fnT r k)
  | 0, i, h => by
    have : i = k := by omega
    subst this
    obtain ⟨f, h1, _⟩ := fat_some hk
    exact LoopC.last (fnP r s (s, f) i h1 (List.getElem?_eq_some_iff.1 h1).1 hl (by simp)) (by simp)
  | m + 1, i, h => by
    obtain ⟨f, h1, _⟩ := fat_some hk
    have hlt := (List.getElem?_eq_some_iff.1 h1).1
    have hi : i < r.F.length := by omega
    have hne : (s == r.F[i].1) = false := by
      have := (List.findIdx?_eq_some_iff_getElem.1 hk).2.2 i (by omega)
      simpa using this
    refine LoopC.next (fnG r s r.F[i] i (List.getElem?_eq_getElem hi) hi hl ?_) (fnLoopA r s k hk hl m (i + 1) (by omega))
    rw [beq_eq_false_iff_ne] at hne ⊢
    exact fun e => hne (toList_inj e).symm
theorem fnLoopB (r : Rv) (s : ByteArray) (hk : fat r.F s = none) (hl : r.F.length ≤ 1000000000) : ∀ (m i : Nat), i + m = r.F.length → LoopC Try.prog 2 26 fnB (fnS r s i) (.exit 0) (fnS r s r.F.length)
  | 0, i, h => by
    have : i = r.F.length := by omega
    subst this
    exact LoopC.last (fnE r s _ (Nat.le_refl _)) (by simp)
  | m + 1, i, h => by
    have hi : i < r.F.length := by omega
    have hne : (s == r.F[i].1) = false := by
      have := List.findIdx?_eq_none_iff.1 hk r.F[i] (List.getElem_mem hi)
      simpa using this
    refine LoopC.next (fnG r s r.F[i] i (List.getElem?_eq_getElem hi) hi hl ?_) (fnLoopB r s hk hl m (i + 1) (by omega))
    rw [beq_eq_false_iff_ne] at hne ⊢
    exact fun e => hne (toList_inj e).symm
theorem cRFindA (r : Rv) (s : ByteArray) (k : Nat) (hk : fat r.F s = some k) (hl : r.F.length ≤ 1000000000) : Contract Try.prog 44 [.ptr 0 0 0 0, .val (.string s)] [r.box 1, r.arr] (I k) [some (r.box 1), some r.arr] := cFindA r s k (fnLoopA r s k hk hl k 0 (by omega))
theorem cRFindB (r : Rv) (s : ByteArray) (hk : fat r.F s = none) (hl : r.F.length ≤ 1000000000) : Contract Try.prog 44 [.ptr 0 0 0 0, .val (.string s)] [r.box 1, r.arr] (I (-1)) [some (r.box 1), some r.arr] := cFindB r s _ (fnLoopB r s hk hl r.F.length 0 (by omega))
theorem tot_take (F : Fs) {i : Nat} {x : ByteArray × Fi} (hx : F[i]? = some x) : tot (F.take (i + 1)) = tot (F.take i) + x.2.bs.length := by
  rw [List.take_add_one, hx, Option.toList_some, tot_app]; simp [tot]
theorem tot_take_le (F : Fs) (i : Nat) : tot (F.take i) ≤ tot F := by
  have : tot (F.take i ++ F.drop i) = _ := tot_app _ _
  rw [List.take_append_drop] at this; omega
theorem cRUsed (r : Rv) (hl : r.F.length ≤ 1000000000) (ht : tot r.F ≤ 1000000000) : Contract Try.prog 29 [.ptr 0 0 0 0] [r.box 1, r.arr] (I ((tot r.F : Nat) : Int)) [some (r.box 1), some r.arr] := by
  refine cUsedA r (tot r.F) r.F.length ?_
  have key : ∀ (m i : Nat), i + m = r.F.length → LoopC Try.prog 2 26 usB (usS r (tot (r.F.take i)) i) (.exit 0) (usS r (tot r.F) r.F.length) := by
    intro m
    induction m with
    | zero =>
      intro i h
      have : i = r.F.length := by omega
      subst this
      rw [List.take_length]
      exact LoopC.last (usE r _ _ (Nat.le_refl _)) (by simp)
    | succ m ih =>
      intro i h
      have hi : i < r.F.length := by omega
      have hx := List.getElem?_eq_getElem hi
      have h1 := tot_take_le r.F i
      have h2 := tot_take_le r.F (i + 1)
      have h3 := tot_take r.F hx
      have := usG r r.F[i] (tot (r.F.take i)) i hx hi hl (by omega) (by omega)
      rw [← h3] at this
      exact LoopC.next this (ih (i + 1) (by omega))
  exact key r.F.length 0 (by omega)

end Go.Proofs.Ythmhkgddohgoeaa

/- the reference's device: Append. -/
namespace Go.Proofs.Ythmhkgddohgoeaa
open E
set_option maxRecDepth 100000
set_option linter.unusedVariables false
set_option linter.unusedSimpArgs false

def apS (r : Rv) (s : ByteArray) (b : List UInt8) (i : Nat) : SL := ⟨[(0, .ptr 0 0 0 0), (1, .val (.string s)), (2, .sl 1 (b.map bR)), (7, I i)], [(0, r.box 1), (1, r.arr)], [0, 1, 0, 1]⟩
def insF (F : Fs) (k : Nat) (p : ByteArray × Fi) : Fs := F.take k ++ [p] ++ F.drop k
noncomputable def apB : Code := codeAt Try.prog 22 [true, true, true, false, true, false, true, false, false, false]

theorem setFR {F : Fs} {i : Nat} {x : ByteArray × Fi} {s : ByteArray} {bs : List UInt8} {n : Int} (h : x.1 = s) : (F.map fR).set i [Sg x.1, .sl 1 (bs.map bR), I n] = (F.set i (s, ⟨bs, n⟩)).map fR := by
  subst h; rw [List.map_set]; rfl
theorem ins2 {F : Fs} {k : Nat} {s : ByteArray} : (F.take k).map fR ++ [[Sg s, V.sl 1 [], I 0]] = (F.take k ++ [(s, (⟨[], 0⟩ : Fi))]).map fR := by rw [List.map_append]; rfl
theorem ins3 {F : Fs} {k : Nat} {p : ByteArray × Fi} : (F.take k ++ [p]).map fR ++ List.take ((F.map fR).length - k) (List.drop k (F.map fR)) = (insF F k p).map fR := by
  rw [List.take_of_length_le (l := List.drop k (F.map fR)) (by simp), ← List.map_drop, ← List.map_append]; rfl
theorem insL {F : Fs} {k : Nat} {p : ByteArray × Fi} (hk : k ≤ F.length) : Int.ofNat k < Int.ofNat ((insF F k p).map fR).length := by
  simp only [insF, List.length_map, List.length_append, List.length_take, List.length_singleton, List.length_drop, Int.ofNat_eq_natCast]; omega
theorem insAt {F : Fs} {k : Nat} {p : ByteArray × Fi} (hk : k ≤ F.length) : (insF F k p)[k]? = some p := by
  unfold insF
  rw [List.append_assoc, List.getElem?_append_right (by simp; omega)]
  simp [Nat.min_eq_left hk]
theorem insG {F : Fs} {k : Nat} {p : ByteArray × Fi} (hk : k ≤ F.length) : ((insF F k p).map fR)[k]? = some (fR p) := by
  rw [List.getElem?_map, insAt hk]; rfl
theorem insSet {F : Fs} {k : Nat} {p q : ByteArray × Fi} (hk : k ≤ F.length) : (insF F k p).set k q = insF F k q := by
  unfold insF
  rw [List.append_assoc, List.append_assoc, List.set_append_right _ _ (by simp; omega)]
  simp [Nat.min_eq_left hk]
theorem insSt {F : Fs} {k : Nat} {s : ByteArray} {f : Fi} {bs : List UInt8} {n : Int} (hk : k ≤ F.length) : ((insF F k (s, f)).map fR).set k [Sg s, V.sl 1 (bs.map bR), I n] = (insF F k (s, ⟨bs, n⟩)).map fR := by
  have h := congrArg (List.map fR) (insSet (F := F) (k := k) (p := (s, f)) (q := (s, ⟨bs, n⟩)) hk)
  rw [List.map_set] at h
  exact h
theorem apG_0 (r : Rv) (s : ByteArray) (b : List UInt8) (x : ByteArray × Fi) (i : Nat) (hx : r.F[i]? = some x) (hi : i < r.F.length) (hl : r.F.length ≤ 1000000000) (hb : ltS x.1 s = true) : CodeC Try.prog 2 95 apB (apS r s b i) (Ex.normal) ({ env := [((0 : Nat), V.ptr (0 : Nat) (0 : Nat) (0 : Nat) (0 : Nat)), ((1 : Nat), Sg s), ((2 : Nat), V.sl (1 : Nat) (List.map bR b)), ((7 : Nat), I (Int.ofNat (i + (1 : Nat))))], st := [((0 : Nat), Obj.box [I (Rv.room r), I (Rv.fuse r), V.own (1 : Nat)]), ((1 : Nat), Obj.arr (3 : Nat) (List.map fR (Rv.F r)))], ids := [(0 : Nat), (1 : Nat), (0 : Nat), (1 : Nat)] }) :=
  runP hmix [.reg 10 [(6, [], some true), (15, [.row (fR x)], none), (17, [], some true)], .reg 11 [(1, [.be (I ((i + 1 : Nat) : Int))], none)]] ⟨[0, 1, 2, 7], [(0, 0), (1, 1)], []⟩ [
      decide (Int.ofNat i < Int.ofNat (List.length (List.map fR (Rv.F r)))) = true,
      (0 : Int) ≤ Int.ofNat i,
      Int.ofNat i < Int.ofNat (List.length (List.map fR (Rv.F r))),
      (List.map fR (Rv.F r))[i]? = some (fR x),
      Op.bytesLess (ByteArray.toList (Prod.fst x)) (ByteArray.toList s) = true,
      IntKind.wrap IntKind.i64 (Int.ofNat (i + (1 : Nat))) = Int.ofNat (i + (1 : Nat))] (by kernel_rfl)
    (by
      simp only [allP]
      and_intros <;> first
        | exact hb
        | exact i64_small (by simp; omega)
        | (simp [hx]; done)
        | (simp; omega))

theorem apG (r : Rv) (s : ByteArray) (b : List UInt8) (x : ByteArray × Fi) (i : Nat) (hx : r.F[i]? = some x) (hi : i < r.F.length) (hl : r.F.length ≤ 1000000000) (hb : ltS x.1 s = true)  : CodeC Try.prog 2 95 apB (apS r s b i) .normal (apS r s b (i + 1)) := by
  exact CodeC.cast (by
    first
      | rfl) (apG_0 r s b x i hx hi hl hb )

theorem apP_0 (r : Rv) (s : ByteArray) (b : List UInt8) (x : ByteArray × Fi) (i : Nat) (hx : r.F[i]? = some x) (hi : i < r.F.length) (hl : r.F.length ≤ 1000000000) (hb : ltS x.1 s = false) : CodeC Try.prog 2 95 apB (apS r s b i) (Ex.exit (1 : Nat)) ({ env := [((0 : Nat), V.ptr (0 : Nat) (0 : Nat) (0 : Nat) (0 : Nat)), ((1 : Nat), Sg s), ((2 : Nat), V.sl (1 : Nat) (List.map bR b)), ((7 : Nat), I (Int.ofNat i))], st := [((0 : Nat), Obj.box [I (Rv.room r), I (Rv.fuse r), V.own (1 : Nat)]), ((1 : Nat), Obj.arr (3 : Nat) (List.map fR (Rv.F r)))], ids := [(0 : Nat), (1 : Nat), (0 : Nat), (1 : Nat)] }) :=
  runP hmix [.reg 10 [(6, [], some true), (15, [.row (fR x)], none), (17, [], some false)]] ⟨[0, 1, 2, 7], [(0, 0), (1, 1)], []⟩ [
      decide (Int.ofNat i < Int.ofNat (List.length (List.map fR (Rv.F r)))) = true,
      (0 : Int) ≤ Int.ofNat i,
      Int.ofNat i < Int.ofNat (List.length (List.map fR (Rv.F r))),
      (List.map fR (Rv.F r))[i]? = some (fR x),
      Op.bytesLess (ByteArray.toList (Prod.fst x)) (ByteArray.toList s) = false] (by kernel_rfl)
    (by
      simp only [allP]
      and_intros <;> first
        | exact hb
        | (simp [hx]; done)
        | (simp; omega))

theorem apP (r : Rv) (s : ByteArray) (b : List UInt8) (x : ByteArray × Fi) (i : Nat) (hx : r.F[i]? = some x) (hi : i < r.F.length) (hl : r.F.length ≤ 1000000000) (hb : ltS x.1 s = false)  : CodeC Try.prog 2 95 apB (apS r s b i) (.exit 1) (apS r s b i) := by
  exact CodeC.cast (by
    first
      | rfl) (apP_0 r s b x i hx hi hl hb )

theorem apE_0 (r : Rv) (s : ByteArray) (b : List UInt8) (i : Nat) (h : r.F.length ≤ i) : CodeC Try.prog 2 95 apB (apS r s b i) (Ex.exit (1 : Nat)) ({ env := [((0 : Nat), V.ptr (0 : Nat) (0 : Nat) (0 : Nat) (0 : Nat)), ((1 : Nat), Sg s), ((2 : Nat), V.sl (1 : Nat) (List.map bR b)), ((7 : Nat), I (Int.ofNat i))], st := [((0 : Nat), Obj.box [I (Rv.room r), I (Rv.fuse r), V.own (1 : Nat)]), ((1 : Nat), Obj.arr (3 : Nat) (List.map fR (Rv.F r)))], ids := [(0 : Nat), (1 : Nat), (0 : Nat), (1 : Nat)] }) :=
  runP hmix [.reg 10 [(6, [], some false)]] ⟨[0, 1, 2, 7], [(0, 0), (1, 1)], []⟩ [
      decide (Int.ofNat i < Int.ofNat (List.length (List.map fR (Rv.F r)))) = false] (by kernel_rfl)
    (by
      simp only [allP]
      and_intros <;> first
        | (simp; omega))

theorem apE (r : Rv) (s : ByteArray) (b : List UInt8) (i : Nat) (h : r.F.length ≤ i)  : CodeC Try.prog 2 95 apB (apS r s b i) (.exit 1) (apS r s b i) := by
  exact CodeC.cast (by
    first
      | rfl) (apE_0 r s b i h )

theorem cRApp5_0 (r : Rv) (s : ByteArray) (b : List UInt8) (hf : r.fuse = 0) : Contract Try.prog 22 [.ptr 0 0 0 0, .val (.string s), .sl 1 (b.map bR)] [r.box 1, r.arr] (I (5 : Int)) ([some (Obj.box [I (Rv.room r), I (Rv.fuse r), V.own (1 : Nat)]), some (Obj.arr (3 : Nat) (List.map fR (Rv.F r)))]) :=
  vcP hmix [.reg 1 [(4, [], some true)]] [] [
      (Rv.fuse r == (0 : Int)) = true] (by kernel_rfl)
    (by
      simp only [allP]
      and_intros <;> first
        | (simp [hf]; done))

theorem cRApp5 (r : Rv) (s : ByteArray) (b : List UInt8) (hf : r.fuse = 0) : Contract Try.prog 22 [.ptr 0 0 0 0, .val (.string s), .sl 1 (b.map bR)] [r.box 1, r.arr] (I 5) [some (r.box 1), some r.arr] := by
  exact Contract.cast (by
    first
      | rfl) (by
    first
      | rfl) (cRApp5_0 r s b hf )

theorem cRApp1_0 (r : Rv) (s : ByteArray) (b : List UInt8) (hf : r.fuse ≠ 0) (hs : (ByteArray.toList s == []) = true) : Contract Try.prog 22 [.ptr 0 0 0 0, .val (.string s), .sl 1 (b.map bR)] [r.box 1, r.arr] (I (1 : Int)) ([some (Obj.box [I (Rv.room r), I (Rv.fuse r), V.own (1 : Nat)]), some (Obj.arr (3 : Nat) (List.map fR (Rv.F r)))]) :=
  vcP hmix [.reg 1 [(4, [], some false)], .reg 3 [(1, [], some true)]] [] [
      (Rv.fuse r == (0 : Int)) = false,
      (ByteArray.toList s == []) = true] (by kernel_rfl)
    (by
      simp only [allP]
      and_intros <;> first
        | omega
        | (simp [hf]; done))

theorem cRApp1 (r : Rv) (s : ByteArray) (b : List UInt8) (hf : r.fuse ≠ 0) (hs : (ByteArray.toList s == []) = true) : Contract Try.prog 22 [.ptr 0 0 0 0, .val (.string s), .sl 1 (b.map bR)] [r.box 1, r.arr] (I 1) [some (r.box 1), some r.arr] := by
  exact Contract.cast (by
    first
      | rfl) (by
    first
      | rfl) (cRApp1_0 r s b hf hs )

theorem cRApp3_0 (r : Rv) (s : ByteArray) (b : List UInt8) (u : Int) (hf : r.fuse ≠ 0) (hs : (ByteArray.toList s == []) = false) (hU : Contract Try.prog 29 [.ptr 0 0 0 0] [r.box 1, r.arr] (I u) [some (r.box 1), some r.arr]) (hu : 0 ≤ u) (hu2 : u ≤ 1000000000) (hr : 0 ≤ r.room) (hr2 : r.room ≤ 9223372036854775807) (hb : r.room - u < (b.length : Int)) : Contract Try.prog 22 [.ptr 0 0 0 0, .val (.string s), .sl 1 (b.map bR)] [r.box 1, r.arr] (I (3 : Int)) ([some (Obj.box [I (Rv.room r), I (Rv.fuse r), V.own (1 : Nat)]), some (Obj.arr (3 : Nat) (List.map fR (Rv.F r)))]) :=
  vcP hmix [.reg 1 [(4, [], some false)], .reg 3 [(1, [], some false)], .reg 5 [(5, [.cst 0 0 (I r.room)], none), (7, [.call [0, 1] [] (I u) [some (r.box 1), some r.arr]], none), (8, [.be (I (r.room - u))], none), (9, [], some true)]] [] [
      (Rv.fuse r == (0 : Int)) = false,
      (ByteArray.toList s == []) = false,
      cellIs (some (Obj.box [I (Rv.room r), I (Rv.fuse r), V.own (1 : Nat)])) (0 : Nat) (I (Rv.room r)),
      Contract Try.prog (29 : Nat) [V.ptr (0 : Nat) (0 : Nat) (0 : Nat) (0 : Nat)] [Obj.box [I (Rv.room r), I (Rv.fuse r), V.own (1 : Nat)], Obj.arr (3 : Nat) (List.map fR (Rv.F r))] (I u) [some (Obj.box [I (Rv.room r), I (Rv.fuse r), V.own (1 : Nat)]), some (Obj.arr (3 : Nat) (List.map fR (Rv.F r)))],
      cellIs (some (Obj.box [I (Rv.room r), I (Rv.fuse r), V.own (1 : Nat)])) (0 : Nat) (I (Rv.room r)),
      IntKind.wrap IntKind.i64 (Rv.room r + -u) = Rv.room r + -u,
      decide (Int.ofNat (List.length (List.map bR b)) > Rv.room r + -u) = true] (by kernel_rfl)
    (by
      simp only [allP]
      and_intros <;> first
        | omega
        | (simp [hf]; done)
        | exact hU
        | exact i64_small (by omega)
        | (simp; omega)
        | rfl)

theorem cRApp3 (r : Rv) (s : ByteArray) (b : List UInt8) (u : Int) (hf : r.fuse ≠ 0) (hs : (ByteArray.toList s == []) = false) (hU : Contract Try.prog 29 [.ptr 0 0 0 0] [r.box 1, r.arr] (I u) [some (r.box 1), some r.arr]) (hu : 0 ≤ u) (hu2 : u ≤ 1000000000) (hr : 0 ≤ r.room) (hr2 : r.room ≤ 9223372036854775807) (hb : r.room - u < (b.length : Int)) : Contract Try.prog 22 [.ptr 0 0 0 0, .val (.string s), .sl 1 (b.map bR)] [r.box 1, r.arr] (I 3) [some (r.box 1), some r.arr] := by
  exact Contract.cast (by
    first
      | rfl) (by
    first
      | rfl) (cRApp3_0 r s b u hf hs hU hu hu2 hr hr2 hb )

theorem cRAppA_0 (r : Rv) (s : ByteArray) (b : List UInt8) (u : Int) (x : ByteArray × Fi) (i : Nat) (hf : r.fuse ≠ 0) (hs : (ByteArray.toList s == []) = false) (hU : Contract Try.prog 29 [.ptr 0 0 0 0] [r.box 1, r.arr] (I u) [some (r.box 1), some r.arr]) (hu : 0 ≤ u) (hu2 : u ≤ 1000000000) (hr : 0 ≤ r.room) (hr2 : r.room ≤ 9223372036854775807) (hb : (b.length : Int) ≤ r.room - u) (hfu : r.fuse ≤ 9223372036854775807) (hb2 : b.length ≤ 1000000000) (hF : Contract Try.prog 44 [.ptr 0 0 0 0, .val (.string s)] [r.box 1, r.arr] (I i) [some (r.box 1), some r.arr]) (hx : r.F[i]? = some x) (hi : i < r.F.length) (hsx : x.1 = s) (hlx : x.2.bs.length + b.length ≤ 1000000000) : Contract Try.prog 22 [.ptr 0 0 0 0, .val (.string s), .sl 1 (b.map bR)] [r.box 1, r.arr] (I (0 : Int)) ([some (Obj.box [I (Rv.room r), I (bif decide (Rv.fuse r > (0 : Int)) then Rv.fuse r + (-1 : Int) else Rv.fuse r), V.own (1 : Nat)]), some (Obj.arr (3 : Nat) (List.map fR (List.set (Rv.F r) i (s, { bs := Fi.bs (Prod.snd x) ++ b, sure := Fi.sure (Prod.snd x) }))))]) :=
  vcP hmix [.reg 1 [(4, [], some false)], .reg 3 [(1, [], some false)], .reg 5 [(5, [.cst 0 0 (I r.room)], none), (7, [.call [0, 1] [] (I u) [some (r.box 1), some r.arr]], none), (8, [.be (I (r.room - u))], none), (9, [], some false)], .reg 7 [(2, [.call [0, 1] [] (I i) [some (r.box 1), some r.arr]], none)], .reg 8 [(1, [], some false)], .reg 13 [(12, [.row (fR x)], none), (13, [.beO (x.2.bs.map bR)], none), (15, [.beO ((x.2.bs ++ b).map bR)], none), (18, [.row (fR x), .beO ((r.F.set i (s, ⟨x.2.bs ++ b, x.2.sure⟩)).map fR)], none)], .reg 14 [(1, [.call [0, 1] [] (.tup []) [some ((⟨r.room, r.fuse, r.F.set i (s, ⟨x.2.bs ++ b, x.2.sure⟩)⟩ : Rv).went.box 1), some (⟨r.room, r.fuse, r.F.set i (s, ⟨x.2.bs ++ b, x.2.sure⟩)⟩ : Rv).went.arr]], none)]] [] [
      (Rv.fuse r == (0 : Int)) = false,
      (ByteArray.toList s == []) = false,
      cellIs (some (Obj.box [I (Rv.room r), I (Rv.fuse r), V.own (1 : Nat)])) (0 : Nat) (I (Rv.room r)),
      Contract Try.prog (29 : Nat) [V.ptr (0 : Nat) (0 : Nat) (0 : Nat) (0 : Nat)] [Obj.box [I (Rv.room r), I (Rv.fuse r), V.own (1 : Nat)], Obj.arr (3 : Nat) (List.map fR (Rv.F r))] (I u) [some (Obj.box [I (Rv.room r), I (Rv.fuse r), V.own (1 : Nat)]), some (Obj.arr (3 : Nat) (List.map fR (Rv.F r)))],
      cellIs (some (Obj.box [I (Rv.room r), I (Rv.fuse r), V.own (1 : Nat)])) (0 : Nat) (I (Rv.room r)),
      IntKind.wrap IntKind.i64 (Rv.room r + -u) = Rv.room r + -u,
      decide (Int.ofNat (List.length (List.map bR b)) > Rv.room r + -u) = false,
      Contract Try.prog (44 : Nat) [V.ptr (0 : Nat) (0 : Nat) (0 : Nat) (0 : Nat), Sg s] [Obj.box [I (Rv.room r), I (Rv.fuse r), V.own (1 : Nat)], Obj.arr (3 : Nat) (List.map fR (Rv.F r))] (I (Int.ofNat i)) [some (Obj.box [I (Rv.room r), I (Rv.fuse r), V.own (1 : Nat)]), some (Obj.arr (3 : Nat) (List.map fR (Rv.F r)))],
      false = false,
      (0 : Int) ≤ Int.ofNat i,
      Int.ofNat i < Int.ofNat (List.length (List.map fR (Rv.F r))),
      (List.map fR (Rv.F r))[i]? = some (fR x),
      List.length (List.map bR (Fi.bs (Prod.snd x))) * (1 : Nat) ≤ (140737488355328 : Nat),
      List.map bR (Fi.bs (Prod.snd x)) = List.map bR (Fi.bs (Prod.snd x)),
      (List.length (List.map bR (Fi.bs (Prod.snd x))) + List.length (List.map bR b)) * (1 : Nat) ≤ (140737488355328 : Nat),
      List.map bR (Fi.bs (Prod.snd x)) ++ List.map bR b = List.map bR (Fi.bs (Prod.snd x) ++ b),
      (0 : Int) ≤ Int.ofNat i,
      Int.ofNat i < Int.ofNat (List.length (List.map fR (Rv.F r))),
      (List.map fR (Rv.F r))[i]? = some (fR x),
      List.set (List.map fR (Rv.F r)) i [Sg (Prod.fst x), V.sl (1 : Nat) (List.map bR (Fi.bs (Prod.snd x) ++ b)), I (Fi.sure (Prod.snd x))] = List.map fR (List.set (Rv.F r) i (s, { bs := Fi.bs (Prod.snd x) ++ b, sure := Fi.sure (Prod.snd x) })),
      Contract Try.prog (45 : Nat) [V.ptr (0 : Nat) (0 : Nat) (0 : Nat) (0 : Nat)] [Obj.box [I (Rv.room r), I (Rv.fuse r), V.own (1 : Nat)], Obj.arr (3 : Nat) (List.map fR (List.set (Rv.F r) i (s, { bs := Fi.bs (Prod.snd x) ++ b, sure := Fi.sure (Prod.snd x) })))] (V.tup []) [some (Obj.box [I (Rv.room r), I (bif decide (Rv.fuse r > (0 : Int)) then Rv.fuse r + (-1 : Int) else Rv.fuse r), V.own (1 : Nat)]), some (Obj.arr (3 : Nat) (List.map fR (List.set (Rv.F r) i (s, { bs := Fi.bs (Prod.snd x) ++ b, sure := Fi.sure (Prod.snd x) }))))]] (by kernel_rfl)
    (by
      simp only [allP]
      and_intros <;> first
        | omega
        | (simp [hf]; done)
        | exact cRWent (⟨r.room, r.fuse, r.F.set i (s, ⟨x.2.bs ++ b, x.2.sure⟩)⟩ : Rv) hfu
        | exact setFR hsx
        | (simp [hx]; done)
        | exact hU
        | exact hF
        | exact i64_small (by omega)
        | (simp; omega)
        | rfl)

theorem cRAppA (r : Rv) (s : ByteArray) (b : List UInt8) (u : Int) (x : ByteArray × Fi) (i : Nat) (hf : r.fuse ≠ 0) (hs : (ByteArray.toList s == []) = false) (hU : Contract Try.prog 29 [.ptr 0 0 0 0] [r.box 1, r.arr] (I u) [some (r.box 1), some r.arr]) (hu : 0 ≤ u) (hu2 : u ≤ 1000000000) (hr : 0 ≤ r.room) (hr2 : r.room ≤ 9223372036854775807) (hb : (b.length : Int) ≤ r.room - u) (hfu : r.fuse ≤ 9223372036854775807) (hb2 : b.length ≤ 1000000000) (hF : Contract Try.prog 44 [.ptr 0 0 0 0, .val (.string s)] [r.box 1, r.arr] (I i) [some (r.box 1), some r.arr]) (hx : r.F[i]? = some x) (hi : i < r.F.length) (hsx : x.1 = s) (hlx : x.2.bs.length + b.length ≤ 1000000000) : Contract Try.prog 22 [.ptr 0 0 0 0, .val (.string s), .sl 1 (b.map bR)] [r.box 1, r.arr] (I 0) [some ((⟨r.room, r.fuse, r.F.set i (s, ⟨x.2.bs ++ b, x.2.sure⟩)⟩ : Rv).went.box 1), some (⟨r.room, r.fuse, r.F.set i (s, ⟨x.2.bs ++ b, x.2.sure⟩)⟩ : Rv).went.arr] := by
  exact Contract.cast (by
    first
      | rfl) (by
    first
      | rfl) (cRAppA_0 r s b u x i hf hs hU hu hu2 hr hr2 hb hfu hb2 hF hx hi hsx hlx )

theorem cRAppB_0 (r : Rv) (s : ByteArray) (b : List UInt8) (u : Int) (k : Nat) (hf : r.fuse ≠ 0) (hs : (ByteArray.toList s == []) = false) (hU : Contract Try.prog 29 [.ptr 0 0 0 0] [r.box 1, r.arr] (I u) [some (r.box 1), some r.arr]) (hu : 0 ≤ u) (hu2 : u ≤ 1000000000) (hr : 0 ≤ r.room) (hr2 : r.room ≤ 9223372036854775807) (hb : (b.length : Int) ≤ r.room - u) (hfu : r.fuse ≤ 9223372036854775807) (hb2 : b.length ≤ 1000000000) (hF : Contract Try.prog 44 [.ptr 0 0 0 0, .val (.string s)] [r.box 1, r.arr] (I (-1)) [some (r.box 1), some r.arr]) (hL : LoopC Try.prog 2 95 apB (apS r s b 0) (.exit 1) (apS r s b k)) (hk : k ≤ r.F.length) (hl : r.F.length ≤ 1000000) : Contract Try.prog 22 [.ptr 0 0 0 0, .val (.string s), .sl 1 (b.map bR)] [r.box 1, r.arr] (I (0 : Int)) ([some (Obj.box [I (Rv.room r), I (bif decide (Rv.fuse r > (0 : Int)) then Rv.fuse r + (-1 : Int) else Rv.fuse r), V.own (2 : Nat)]), some (Obj.arr (3 : Nat) (List.map fR (Rv.F r))), some (Obj.arr (3 : Nat) (List.map fR (insF (Rv.F r) k (s, { bs := b, sure := (0 : Int) }))))]) :=
  vcP hmix [.reg 1 [(4, [], some false)], .reg 3 [(1, [], some false)], .reg 5 [(5, [.cst 0 0 (I r.room)], none), (7, [.call [0, 1] [] (I u) [some (r.box 1), some r.arr]], none), (8, [.be (I (r.room - u))], none), (9, [], some false)], .reg 7 [(2, [.call [0, 1] [] (I (-1)) [some (r.box 1), some r.arr]], none)], .reg 8 [(1, [], some true)], .cut ⟨[0, 1, 2, 7], [(0, 0), (1, 1)], []⟩ (.exit 1) (apS r s b k), .reg 12 [(6, [.idx 0], none), (7, [.beO ((r.F.take k).map fR)], none), (11, [.beO ((r.F.take k ++ [(s, (⟨[], 0⟩ : Fi))]).map fR)], none), (17, [.idx 0], none), (18, [.beO ((insF r.F k (s, (⟨[], 0⟩ : Fi))).map fR)], none)], .reg 13 [(12, [.row (fR (s, (⟨[], 0⟩ : Fi)))], none), (18, [.row (fR (s, (⟨[], 0⟩ : Fi))), .beO ((insF r.F k (s, (⟨b, 0⟩ : Fi))).map fR)], none)], .reg 14 [(1, [.call [0, 2419000] [] (.tup []) [some ((⟨r.room, r.fuse, insF r.F k (s, (⟨b, 0⟩ : Fi))⟩ : Rv).went.box 1), some (⟨r.room, r.fuse, insF r.F k (s, (⟨b, 0⟩ : Fi))⟩ : Rv).went.arr]], none)]] [2419000] [
      (Rv.fuse r == (0 : Int)) = false,
      (ByteArray.toList s == []) = false,
      cellIs (some (Obj.box [I (Rv.room r), I (Rv.fuse r), V.own (1 : Nat)])) (0 : Nat) (I (Rv.room r)),
      Contract Try.prog (29 : Nat) [V.ptr (0 : Nat) (0 : Nat) (0 : Nat) (0 : Nat)] [Obj.box [I (Rv.room r), I (Rv.fuse r), V.own (1 : Nat)], Obj.arr (3 : Nat) (List.map fR (Rv.F r))] (I u) [some (Obj.box [I (Rv.room r), I (Rv.fuse r), V.own (1 : Nat)]), some (Obj.arr (3 : Nat) (List.map fR (Rv.F r)))],
      cellIs (some (Obj.box [I (Rv.room r), I (Rv.fuse r), V.own (1 : Nat)])) (0 : Nat) (I (Rv.room r)),
      IntKind.wrap IntKind.i64 (Rv.room r + -u) = Rv.room r + -u,
      decide (Int.ofNat (List.length (List.map bR b)) > Rv.room r + -u) = false,
      Contract Try.prog (44 : Nat) [V.ptr (0 : Nat) (0 : Nat) (0 : Nat) (0 : Nat), Sg s] [Obj.box [I (Rv.room r), I (Rv.fuse r), V.own (1 : Nat)], Obj.arr (3 : Nat) (List.map fR (Rv.F r))] (I (-1 : Int)) [some (Obj.box [I (Rv.room r), I (Rv.fuse r), V.own (1 : Nat)]), some (Obj.arr (3 : Nat) (List.map fR (Rv.F r)))],
      true = true,
      LoopC Try.prog (2 : Nat) (95 : Nat) apB { env := [((0 : Nat), V.ptr (0 : Nat) (0 : Nat) (0 : Nat) (0 : Nat)), ((1 : Nat), Sg s), ((2 : Nat), V.sl (1 : Nat) (List.map bR b)), ((7 : Nat), I (0 : Int))], st := [((0 : Nat), Obj.box [I (Rv.room r), I (Rv.fuse r), V.own (1 : Nat)]), ((1 : Nat), Obj.arr (3 : Nat) (List.map fR (Rv.F r)))], ids := [(0 : Nat), (1 : Nat), (0 : Nat), (1 : Nat)] } (Ex.exit (1 : Nat)) { env := [((0 : Nat), V.ptr (0 : Nat) (0 : Nat) (0 : Nat) (0 : Nat)), ((1 : Nat), Sg s), ((2 : Nat), V.sl (1 : Nat) (List.map bR b)), ((7 : Nat), I (Int.ofNat k))], st := [((0 : Nat), Obj.box [I (Rv.room r), I (Rv.fuse r), V.own (1 : Nat)]), ((1 : Nat), Obj.arr (3 : Nat) (List.map fR (Rv.F r)))], ids := [(0 : Nat), (1 : Nat), (0 : Nat), (1 : Nat)] },
      (0 : Int) ≤ (0 : Int),
      (0 : Int) ≤ Int.ofNat k,
      k ≤ List.length (List.map fR (Rv.F r)),
      k ≤ List.length (List.map fR (Rv.F r)),
      List.length (List.take k (List.map fR (Rv.F r))) * (48 : Nat) ≤ (140737488355328 : Nat),
      List.take k (List.map fR (Rv.F r)) = List.map fR (List.take k (Rv.F r)),
      (List.length (List.map fR (List.take k (Rv.F r))) + (1 : Nat)) * (48 : Nat) ≤ (140737488355328 : Nat),
      List.map fR (List.take k (Rv.F r)) ++ [[Sg s, V.sl (1 : Nat) [], I (0 : Int)]] = List.map fR (List.take k (Rv.F r) ++ [(s, { bs := [], sure := (0 : Int) })]),
      (0 : Int) ≤ Int.ofNat k,
      Int.ofNat k ≤ Int.ofNat (List.length (List.map fR (Rv.F r))),
      List.length (List.map fR (Rv.F r)) ≤ List.length (List.map fR (Rv.F r)),
      List.length (List.map fR (Rv.F r)) ≤ List.length (List.map fR (Rv.F r)),
      (List.length (List.map fR (List.take k (Rv.F r) ++ [(s, { bs := [], sure := (0 : Int) })])) + List.length (List.take (List.length (List.map fR (Rv.F r)) - k) (List.drop k (List.map fR (Rv.F r))))) * (48 : Nat) ≤ (140737488355328 : Nat),
      List.map fR (List.take k (Rv.F r) ++ [(s, { bs := [], sure := (0 : Int) })]) ++ List.take (List.length (List.map fR (Rv.F r)) - k) (List.drop k (List.map fR (Rv.F r))) = List.map fR (insF (Rv.F r) k (s, { bs := [], sure := (0 : Int) })),
      (0 : Int) ≤ Int.ofNat k,
      Int.ofNat k < Int.ofNat (List.length (List.map fR (insF (Rv.F r) k (s, { bs := [], sure := (0 : Int) })))),
      (List.map fR (insF (Rv.F r) k (s, { bs := [], sure := (0 : Int) })))[k]? = some (fR (s, { bs := [], sure := (0 : Int) })),
      (0 : Nat) ≤ (140737488355328 : Nat),
      ((0 : Nat) + List.length (List.map bR b)) * (1 : Nat) ≤ (140737488355328 : Nat),
      (0 : Int) ≤ Int.ofNat k,
      Int.ofNat k < Int.ofNat (List.length (List.map fR (insF (Rv.F r) k (s, { bs := [], sure := (0 : Int) })))),
      (List.map fR (insF (Rv.F r) k (s, { bs := [], sure := (0 : Int) })))[k]? = some (fR (s, { bs := [], sure := (0 : Int) })),
      List.set (List.map fR (insF (Rv.F r) k (s, { bs := [], sure := (0 : Int) }))) k [Sg s, V.sl (1 : Nat) (List.map bR b), I (0 : Int)] = List.map fR (insF (Rv.F r) k (s, { bs := b, sure := (0 : Int) })),
      Contract Try.prog (45 : Nat) [V.ptr (0 : Nat) (0 : Nat) (0 : Nat) (0 : Nat)] [Obj.box [I (Rv.room r), I (Rv.fuse r), V.own (1 : Nat)], Obj.arr (3 : Nat) (List.map fR (insF (Rv.F r) k (s, { bs := b, sure := (0 : Int) })))] (V.tup []) [some (Obj.box [I (Rv.room r), I (bif decide (Rv.fuse r > (0 : Int)) then Rv.fuse r + (-1 : Int) else Rv.fuse r), V.own (1 : Nat)]), some (Obj.arr (3 : Nat) (List.map fR (insF (Rv.F r) k (s, { bs := b, sure := (0 : Int) }))))]] (by kernel_rfl)
    (by
      simp only [allP]
      and_intros <;> first
        | omega
        | (simp [hf]; done)
        | exact hL
        | exact cRWent (⟨r.room, r.fuse, insF r.F k (s, (⟨b, 0⟩ : Fi))⟩ : Rv) hfu
        | exact ins2
        | exact ins3
        | exact insG hk
        | exact insSt hk
        | exact insL hk
        | exact hU
        | exact hF
        | exact i64_small (by omega)
        | (simp; omega)
        | rfl)

theorem cRAppB (r : Rv) (s : ByteArray) (b : List UInt8) (u : Int) (k : Nat) (hf : r.fuse ≠ 0) (hs : (ByteArray.toList s == []) = false) (hU : Contract Try.prog 29 [.ptr 0 0 0 0] [r.box 1, r.arr] (I u) [some (r.box 1), some r.arr]) (hu : 0 ≤ u) (hu2 : u ≤ 1000000000) (hr : 0 ≤ r.room) (hr2 : r.room ≤ 9223372036854775807) (hb : (b.length : Int) ≤ r.room - u) (hfu : r.fuse ≤ 9223372036854775807) (hb2 : b.length ≤ 1000000000) (hF : Contract Try.prog 44 [.ptr 0 0 0 0, .val (.string s)] [r.box 1, r.arr] (I (-1)) [some (r.box 1), some r.arr]) (hL : LoopC Try.prog 2 95 apB (apS r s b 0) (.exit 1) (apS r s b k)) (hk : k ≤ r.F.length) (hl : r.F.length ≤ 1000000) : Contract Try.prog 22 [.ptr 0 0 0 0, .val (.string s), .sl 1 (b.map bR)] [r.box 1, r.arr] (I 0) [some ((⟨r.room, r.fuse, insF r.F k (s, (⟨b, 0⟩ : Fi))⟩ : Rv).went.box 2), some r.arr, some (⟨r.room, r.fuse, insF r.F k (s, (⟨b, 0⟩ : Fi))⟩ : Rv).went.arr] := by
  exact Contract.cast (by
    first
      | rfl) (by
    first
      | rfl) (cRAppB_0 r s b u k hf hs hU hu hu2 hr hr2 hb hfu hb2 hF hL hk hl )

end Go.Proofs.Ythmhkgddohgoeaa

