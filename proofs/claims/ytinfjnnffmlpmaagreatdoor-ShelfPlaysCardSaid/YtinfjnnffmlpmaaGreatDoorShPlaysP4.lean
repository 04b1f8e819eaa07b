/- What all texts of a seat use. -/
import Derived.Test.YtinfjnnffmlpmaaGreatDoorChecked
import Derived.Tactics
import Derived.Tactics2
import Derived.Defers
import Derived.Laws.Pointers
import Derived.Laws.LoneSync
import Derived.RegionTactic
import Derived.RegionCalls
import Derived.Shelf.SlIter.Nil
import Derived.Shelf.SortM.Plain
import Derived.Shelf.SortM.SortNone
import Derived.Test.YtinfjnnffmlpmaaGreatDoorProg
import Derived.Lib.SliceRun
import Derived.Maps.Own
import Derived.RangeFuncBound
import Derived.Sort.KeysCollected
import Derived.WideShapes
import Derived.Laws.Strings
import Derived.Shelf.Strconv.Itoa0
import Derived.Shelf.Strconv.Itoa1
import Derived.Shelf.LaysM
import Derived.Shelf.Strconv.Itoa2
import Derived.Shelf.Strconv.Itoa3
import Derived.Test.YtinfjnnffmlpmaaGreatDoorShPlaysP3
namespace Go.Proofs.YtinfjnnffmlpmaaGreatDoor
open E
set_option maxRecDepth 100000

theorem hmix : Tryz.prog.follows .mixedOrders = true := by kernel_rfl

def U (n : Int) : V := .val (.int .u64 n)
end Go.Proofs.YtinfjnnffmlpmaaGreatDoor

/- Lists whose elements are all right, by their places. -/
namespace Go.Proofs.YtinfjnnffmlpmaaGreatDoor
open E
/-- No element is bad at its place. -/
def allI {α : Type} (bad : Nat → α → Bool) (l : List α) : Bool := (List.range l.length).all fun i => match l[i]? with
  | some a => !bad i a
  | none => true
theorem allI_bad {α : Type} {bad : Nat → α → Bool} {l : List α} {i : Nat} {x : α} (h : l[i]? = some x) (hb : bad i x = true) : allI bad l = false := by
  unfold allI
  rw [List.all_eq_false]
  exact ⟨i, List.mem_range.2 (List.getElem?_eq_some_iff.1 h).1, by rw [h]; simp [hb]⟩
theorem allI_good {α : Type} {bad : Nat → α → Bool} {l : List α} (h : ∀ (i : Nat) (x : α), l[i]? = some x → bad i x = false) : allI bad l = true := by
  unfold allI
  rw [List.all_eq_true]
  intro i hi
  cases hx : l[i]? with
  | none => rfl
  | some a => simp [h i a hx]
theorem allI_iff {α : Type} {bad : Nat → α → Bool} {l : List α} : allI bad l = true ↔ ∀ (i : Nat) (x : α), l[i]? = some x → bad i x = false := by
  constructor
  · intro h i x hx
    cases hb : bad i x with
    | false => rfl
    | true => rw [allI_bad hx hb] at h; cases h
  · exact allI_good
/-- A search that ends one way or the other, as a Bool. -/
theorem allI_all {α : Type} {p : α → Bool} {l : List α} : allI (fun _ x => !p x) l = l.all p := by
  cases h : l.all p with
  | true =>
    rw [List.all_eq_true] at h
    exact allI_good fun i x hx => by rw [h x (List.mem_of_getElem? hx)]; rfl
  | false =>
    rw [List.all_eq_false] at h
    obtain ⟨x, hx, hp⟩ := h
    obtain ⟨i, hi⟩ := List.getElem?_of_mem hx
    exact allI_bad hi (by simpa using hp)
/-- A loop that goes through a list and keeps its frame. -/
theorem LoopC.pass {P : Program} {k n : Nat} {c : Code} {α : Type} (l : List α) (S : Nat → SL) {e : Ex} (he : e ≠ .normal)
    (hround : ∀ (i : Nat) (x : α), l[i]? = some x → i < l.length → CodeC P k n c (S i) .normal (S (i + 1)))
    (hend : CodeC P k n c (S l.length) e (S l.length)) : LoopC P k n c (S 0) e (S l.length) := by
  have key : ∀ m i, i + m = l.length → LoopC P k n c (S i) e (S l.length) := by
    intro m
    induction m with
    | zero => intro i h; have : i = l.length := by omega
              subst this; exact LoopC.last hend he
    | succ m ih => intro i h; exact LoopC.next (hround i l[i] (List.getElem?_eq_getElem (by omega)) (by omega)) (ih (i + 1) (by omega))
  exact key l.length 0 (by omega)
theorem baBeq (a b : ByteArray) : (a == b) = (a.data == b.data) := rfl
instance : LawfulBEq ByteArray where
  rfl {a} := by rw [baBeq]; simp
  eq_of_beq {a b} h := by
    rw [baBeq] at h
    cases a; cases b
    simp at h
    rw [h]
end Go.Proofs.YtinfjnnffmlpmaaGreatDoor

/- a device: its files, and that they are made ready once. -/
namespace Go.Proofs.YtinfjnnffmlpmaaGreatDoor
open Go E
set_option maxRecDepth 100000
set_option maxHeartbeats 1600000
set_option linter.unusedVariables false
set_option linter.unusedSimpArgs false

def bR (b : UInt8) : List V := intRow .u8 b.toNat
theorem flatB (l : List UInt8) : FlatRows (l.map bR) := by
  intro r hr
  obtain ⟨b, _, rfl⟩ := List.mem_map.1 hr
  rfl

/-- A file. -/
structure Fi where
  bs : List UInt8
  sure : Int
def Fi.inn (f : Fi) : Inn := .box 1 (f.bs.map bR) [I f.sure]
abbrev Fs := List (ByteArray × Fi)
def mE (fs : Fs) : List (ByteArray × Inn) := fs.map fun p => (p.1, p.2.inn)
/-- A device. -/
structure Dv where
  room : Int
  used : Int
  nl : Bool
  fs : Fs
  fuse : Int
def Dv.cells (d : Dv) (m : Nat) : List V := [I d.room, I d.used, .val (.int .u32 (bif d.nl then 0 else 1)), .val (.int .i32 0), .val (.int .u32 0), .mref m, I d.fuse]
def Dv.box (d : Dv) (m : Nat) : E.Obj := .box (d.cells m)
def Dv.map (d : Dv) : E.Obj := .nest (.mp d.nl (mE d.fs)) []

theorem addC {x d s : Int} (hs : IntKind.i64.wrap (x + d) = s) : CellC Tryz.prog 26 .i64 x s [.int .i64 d] (.int .i64 s) := by
  refine ⟨⟨_, Tryz.func26, ne_of_beq_false (by kernel_rfl), by kernel_rfl⟩, fun w a hc hz => ?_⟩
  have hadd := run_call_add (P := Tryz.prog) Tryz.func44 (by kernel_rfl) (by kernel_rfl) (by kernel_rfl) .i64 (by kernel_rfl) (y := d) (s := s) hc hz (by simp [go_sem]; exact hs)
  go_enter Tryz.func26, Tryz.ntmps26
  go_wp2
  go_ret
  exact ⟨rfl, rfl⟩
theorem loadC {x : Int} : CellC Tryz.prog 41 .i64 x x [] (.int .i64 x) := by
  refine ⟨⟨_, Tryz.func41, ne_of_beq_false (by kernel_rfl), by kernel_rfl⟩, fun w a hc hz => ?_⟩
  have hl := run_call_load (P := Tryz.prog) Tryz.func49 (by kernel_rfl) (by kernel_rfl) (by kernel_rfl) .i64 (by kernel_rfl) (x := x) hc
  rw [w_same w a _ hc]
  go_enter Tryz.func41, Tryz.ntmps41
  go_wp2
  go_ret
  exact ⟨rfl, rfl⟩

theorem oDisable (w : World) : (callFunc 66 #[]).run Tryz.prog w = .ok (.value (.tuple #[])) w := run_call_mark0 Tryz.func66 (by kernel_rfl) (by kernel_rfl) (by kernel_rfl) .disable (by kernel_rfl) w
theorem oEnable (w : World) : (callFunc 68 #[]).run Tryz.prog w = .ok (.value (.tuple #[])) w := run_call_mark0 Tryz.func68 (by kernel_rfl) (by kernel_rfl) (by kernel_rfl) .enable (by kernel_rfl) w
theorem oAcquire (a : Addr) (w : World) : (callFunc 69 #[.pointer (some a)]).run Tryz.prog w = .ok (.value (.tuple #[])) w := run_call_marked Tryz.func69 (by kernel_rfl) (by kernel_rfl) (by kernel_rfl) .acquire (by kernel_rfl) a w
theorem oRelease (a : Addr) (w : World) : (callFunc 71 #[.pointer (some a)]).run Tryz.prog w = .ok (.value (.tuple #[])) w := run_call_marked Tryz.func71 (by kernel_rfl) (by kernel_rfl) (by kernel_rfl) .releaseMerge (by kernel_rfl) a w
theorem oStore (a : Addr) (x : Value) (u : FrameMode) (w : World) (hc : w.cell? a = some x) (hz : w.frozen? a = false) :
    CallsD Tryz.prog 53 #[.pointer (some a), .bool true] u w fun e u' w' => u' = u ∧ (e = .returned (.tuple #[]) ∧ w' = w.drew.setCell a (.int .u32 1)) := by
  have hc' : w.drew.cell? a = some x := by go_simp
  have hz' : w.drew.frozen? a = false := by go_simp
  have hst := run_call_store (P := Tryz.prog) Tryz.func60 (by kernel_rfl) (by kernel_rfl) (by kernel_rfl) (by kernel_rfl) (k := .u32) (y := 1) hc' hz'
  go_enter_d Tryz.func53, Tryz.ntmps53
  go_wp2
  go_region_calls
  all_goals (go_end0; exact ⟨rfl, rfl⟩)
theorem oUnlock (a : Addr) (u : FrameMode) (w : World) (hc : w.cell? a = some (.int .i32 1)) (hz : w.frozen? a = false) :
    CallsD Tryz.prog 52 #[.pointer (some a)] u w fun e u' w' => u' = u ∧ (e = .returned (.tuple #[]) ∧ w' = w.setCell a (.int .i32 0)) := by
  have hd := oDisable
  have he := oEnable
  have hr := oRelease
  have hadd := run_call_add (P := Tryz.prog) Tryz.func72 (by kernel_rfl) (by kernel_rfl) (by kernel_rfl) .i32 (by kernel_rfl) (y := -1) (s := 0) hc hz (by simp [go_sem]; rfl)
  have hcv := run_convert_to_unsafe (P := Tryz.prog) (src := 110) (dst := 114) Tryz.underlying110 Tryz.underlying114 (by kernel_rfl) hc
  go_enter_d Tryz.func52, Tryz.ntmps52
  go_wp2
  go_end0
  go_wp2
  go_end0
  exact ⟨rfl, rfl⟩
theorem oLock (a : Addr) (w : World) (hc : w.cell? a = some (.int .i32 0)) (hz : w.frozen? a = false) :
    Calls Tryz.prog 51 #[.pointer (some a)] w fun e w' => e = .returned (.tuple #[]) ∧ w' = w.setCell a (.int .i32 1) := by
  have hd := oDisable
  have he := oEnable
  have ha := oAcquire
  have hcas := run_call_cas_hit (P := Tryz.prog) Tryz.func67 (by kernel_rfl) (by kernel_rfl) (by kernel_rfl) .i32 (by kernel_rfl) (y := 1) hc hz
  have hc' : (w.setCell a (.int .i32 1)).cell? a = some (.int .i32 1) := World.cell?_setCell_same w a _ hc
  have hcv := run_convert_to_unsafe (P := Tryz.prog) (src := 110) (dst := 114) Tryz.underlying110 Tryz.underlying114 (by kernel_rfl) hc'
  go_enter Tryz.func51, Tryz.ntmps51
  go_wp2
  first | go_end0 | (simp only [Exit.inBlock, Exit.then]; refine bodyPost_ret (results_none rfl _ _ _) rfl ?_) | refine bodyPost_ret (results_none rfl _ _ _) rfl ?_
  go_wp2
  go_end0
  exact ⟨rfl, rfl⟩
theorem oReady (b : Nat) (x5 : Value) (w : World) (h5 : w.cell? ⟨b, 5, none⟩ = some x5) (f5 : w.frozen? ⟨b, 5, none⟩ = false) (hb : b < w.heap.size) :
    Calls Tryz.prog 25 #[.pointer (some ⟨b, 0, none⟩)] w fun e w' => e = .returned (.tuple #[]) ∧ w' = (w.setCell ⟨b, 5, none⟩ (.map (some w.heap.size))).alloc (.map #[] 0) := by
  have e5 : (w.alloc (.map #[] 0)).cell? ⟨b, 5, none⟩ = some x5 := by rw [World.cell?_alloc_past _ _ _ hb]; exact h5
  have z5 : (w.alloc (.map #[] 0)).frozen? ⟨b, 5, none⟩ = false := by rw [World.frozen?_alloc_past _ _ _ hb]; exact f5
  have hmk : (Instr.makeMap 62 none).run Tryz.prog w = .ok (.map (some w.heap.size)) (w.alloc (.map #[] 0)) := rfl
  go_enter Tryz.func25, Tryz.ntmps25
  go_wp2
  go_end0
  exact ⟨rfl, rfl⟩
theorem oLoad (a : Addr) (x : Int) (w : World) (hc : w.cell? a = some (.int .u32 x)) : Calls Tryz.prog 42 #[.pointer (some a)] w fun e w' => e = .returned (.bool (x != 0)) ∧ w' = w := by
  have hl := run_call_load (P := Tryz.prog) Tryz.func50 (by kernel_rfl) (by kernel_rfl) (by kernel_rfl) .u32 (by kernel_rfl) (x := x) hc
  go_enter Tryz.func42, Tryz.ntmps42
  go_wp2
  go_ret
  exact ⟨rfl, rfl⟩
/-- The world when the files have been made ready. -/
def madeW (b : Nat) (w : World) : World := ((((w.setCell ⟨b, 3, none⟩ (.int .i32 1)).setCell ⟨b, 5, none⟩ (.map (some w.heap.size))).alloc (.map #[] 0)).drew.setCell ⟨b, 2, none⟩ (.int .u32 1)).setCell ⟨b, 3, none⟩ (.int .i32 0)
theorem oSlow (b : Nat) (x5 : Value) (w : World) (hb : b < w.heap.size) (h2 : w.cell? ⟨b, 2, none⟩ = some (.int .u32 0)) (h3 : w.cell? ⟨b, 3, none⟩ = some (.int .i32 0)) (h5 : w.cell? ⟨b, 5, none⟩ = some x5)
    (f2 : w.frozen? ⟨b, 2, none⟩ = false) (f3 : w.frozen? ⟨b, 3, none⟩ = false) (f5 : w.frozen? ⟨b, 5, none⟩ = false) :
    Calls Tryz.prog 43 #[.pointer (some ⟨b, 2, none⟩), .func (.func 25) #[.pointer (some ⟨b, 0, none⟩)] #[]] w fun e w' => e = .returned (.tuple #[]) ∧ w' = madeW b w := by
  unfold madeW
  have h21 : (w.setCell ⟨b, 3, none⟩ (.int .i32 1)).cell? ⟨b, 2, none⟩ = some (.int .u32 0) := (World.cell?_setCell_other _ ⟨b, 3, none⟩ ⟨b, 2, none⟩ _ (by simp)).trans h2
  have h51 : (w.setCell ⟨b, 3, none⟩ (.int .i32 1)).cell? ⟨b, 5, none⟩ = some x5 := (World.cell?_setCell_other _ ⟨b, 3, none⟩ ⟨b, 5, none⟩ _ (by simp)).trans h5
  have hnot : ∀ (x : Bool) (w : World), (Op.unary .not (.bool x)).run Tryz.prog w = .ok (.bool (!x)) w := fun _ _ => rfl
  go_enter_defers Tryz.func43, Tryz.ntmps43
  go_wp2_with (first
    | (go_at_call 51; refine (oLock ⟨b, 3, none⟩ _ (by go_simp) (by go_simp)).mono ?_; rintro e w' ⟨rfl, rfl⟩)
    | (go_at_call 42; refine (oLoad ⟨b, 2, none⟩ 0 _ h21).mono ?_; rintro e w' ⟨rfl, rfl⟩)
    | (go_at_call 25; refine (oReady b x5 _ h51 (by simp [f5]) (by simpa using hb)).mono ?_; rintro e w' ⟨rfl, rfl⟩))
  have c2 : (((w.setCell ⟨b, 3, none⟩ (.int .i32 1)).setCell ⟨b, 5, none⟩ (.map (some w.heap.size))).alloc (.map #[] 0)).cell? ⟨b, 2, none⟩ = some (.int .u32 0) := by
    rw [World.cell?_alloc_past _ _ _ (by simpa using hb)]
    exact (World.cell?_setCell_other _ ⟨b, 5, none⟩ ⟨b, 2, none⟩ _ (by simp)).trans h21
  have c3 : ((((w.setCell ⟨b, 3, none⟩ (.int .i32 1)).setCell ⟨b, 5, none⟩ (.map (some w.heap.size))).alloc (.map #[] 0)).drew.setCell ⟨b, 2, none⟩ (.int .u32 1)).cell? ⟨b, 3, none⟩ = some (.int .i32 1) := by
    refine (World.cell?_setCell_other _ ⟨b, 2, none⟩ ⟨b, 3, none⟩ _ (by simp)).trans ?_
    rw [World.cell?_drew, World.cell?_alloc_past _ _ _ (by simpa using hb)]
    exact (World.cell?_setCell_other _ ⟨b, 5, none⟩ ⟨b, 3, none⟩ _ (by simp)).trans (World.cell?_setCell_same w _ _ h3)
  refine leaves_cons (f := 53) (args := #[.pointer (some ⟨b, 2, none⟩), .bool true]) (by simp) (by simp [go_sem]) ?_
  refine (oStore ⟨b, 2, none⟩ (.int .u32 0) .returning _ c2 ?_).mono ?_
  · rw [World.frozen?_alloc_past _ _ _ (by simpa using hb)]; simp [f2]
  rintro e u' w'' ⟨rfl, rfl, rfl⟩
  refine leaves_cons (f := 52) (args := #[.pointer (some ⟨b, 3, none⟩)]) (by simp [Go.settle]) (by simp [go_sem]) ?_
  refine (oUnlock ⟨b, 3, none⟩ _ _ c3 ?_).mono ?_
  · simp only [World.frozen?_setCell, World.frozen?_drew]
    rw [World.frozen?_alloc_past _ _ _ (by simpa using hb)]; simp [f3]
  rintro e u' w'' ⟨rfl, rfl, rfl⟩
  simp [Leaves, Go.settle, results, Tryz.results43]
theorem oDo (b : Nat) (x5 : Value) (w : World) (hb : b < w.heap.size) (h2 : w.cell? ⟨b, 2, none⟩ = some (.int .u32 0)) (h3 : w.cell? ⟨b, 3, none⟩ = some (.int .i32 0)) (h5 : w.cell? ⟨b, 5, none⟩ = some x5)
    (f2 : w.frozen? ⟨b, 2, none⟩ = false) (f3 : w.frozen? ⟨b, 3, none⟩ = false) (f5 : w.frozen? ⟨b, 5, none⟩ = false) :
    Calls Tryz.prog 24 #[.pointer (some ⟨b, 2, none⟩), .func (.func 25) #[.pointer (some ⟨b, 0, none⟩)] #[]] w fun e w' => e = .returned (.tuple #[]) ∧ w' = madeW b w := by
  have hnot : ∀ (x : Bool) (w : World), (Op.unary .not (.bool x)).run Tryz.prog w = .ok (.bool (!x)) w := fun _ _ => rfl
  go_enter Tryz.func24, Tryz.ntmps24
  go_wp2_with (first
    | (go_at_call 42; refine (oLoad ⟨b, 2, none⟩ 0 _ h2).mono ?_; rintro e w' ⟨rfl, rfl⟩)
    | (go_at_call 43; refine (oSlow b x5 _ hb h2 h3 h5 f2 f3 f5).mono ?_; rintro e w' ⟨rfl, rfl⟩))
  go_end0
  exact ⟨rfl, rfl⟩
theorem oDone (b : Nat) (x : Int) (hx : x ≠ 0) (g : Value) (w : World) (h2 : w.cell? ⟨b, 2, none⟩ = some (.int .u32 x)) :
    Calls Tryz.prog 24 #[.pointer (some ⟨b, 2, none⟩), g] w fun e w' => e = .returned (.tuple #[]) ∧ w' = w := by
  have hnot : ∀ (x : Bool) (w : World), (Op.unary .not (.bool x)).run Tryz.prog w = .ok (.bool (!x)) w := fun _ _ => rfl
  have hx' : (x != 0) = true := by simpa using hx
  go_enter Tryz.func24, Tryz.ntmps24
  go_wp2_with (go_at_call 42; refine (oLoad ⟨b, 2, none⟩ x _ h2).mono ?_; rw [hx']; rintro e w' ⟨rfl, rfl⟩)
  go_end0
  exact ⟨rfl, rfl⟩
end Go.Proofs.YtinfjnnffmlpmaaGreatDoor

/- the files are made ready, once: the contract. -/
namespace Go.Proofs.YtinfjnnffmlpmaaGreatDoor
open Go E
set_option maxRecDepth 100000
set_option linter.unusedVariables false
set_option linter.unusedSimpArgs false

/-- What the pieces of a device are in memory. -/
theorem dv_at {base : Nat} {X G : Nat → Prop} {τ : Nat → Gh} {w : World} {d : Dv} (hm : Mem base X G τ (objsAt [d.box 1, d.map]) w) :
    ∃ b x4 t fz, (τ 0).blk = some b ∧ w.heap[b]? = some (.cells #[.int .i64 d.room, .int .i64 d.used, .int .u32 (bif d.nl then 0 else 1), .int .i32 0, .int .u32 0, x4, .int .i64 d.fuse] t fz) ∧ x4 = .map (τ 1).blk ∧ ¬ G b ∧ Free fz 7 := by
  have hok := hm.ok 0 _ rfl
  simp only [Dv.box, Dv.cells, Obj.ok] at hok
  obtain ⟨b, xs, t, fz, h1, h2, h3, h4, h5⟩ := hok
  obtain ⟨l⟩ := xs
  match l, h5 with
  | [x0, x1, x2, x3, x4, x5, x6], h5 =>
    simp only [repL, V.rep, V.repI, and_true] at h5
    obtain ⟨rfl, rfl, rfl, rfl, rfl, h6, rfl⟩ := h5
    exact ⟨b, _, t, fz, h1, h2, h6, h3, h4⟩

theorem fr_at {w : World} {b i : Nat} {xs : Array Value} {t : TypeId} {fz : Nat × Nat} (h : w.heap[b]? = some (.cells xs t fz)) (hf : Free fz 7) (hi : i < 7) : w.frozen? ⟨b, i, none⟩ = false := by
  have := hf i hi
  simp only [World.frozen?, h]
  rw [Bool.and_eq_false_iff, decide_eq_false_iff_not, decide_eq_false_iff_not]
  by_cases h : fz.1 ≤ i
  · exact .inr fun h2 => this ⟨h, h2⟩
  · exact .inl h

/-- The files are made ready, once. -/
theorem cOnce (d : Dv) (hd : d.nl = true → d.fs = []) : Contract Tryz.prog 24 [.ptr 0 0 0 2, .clo (.func 25) [.ptr 0 0 0 0] []] [d.box 1, d.map] (.val (.tuple #[])) [some ({d with nl := false}.box 2), none, some {d with nl := false}.map] := by
  have hgo : ∃ fn, Tryz.prog.funcs[24]? = some fn ∧ fn.name ≠ "runtime.NumGoroutine" ∧ fn.body.isSome = true := ⟨_, Tryz.func24, ne_of_beq_false (by kernel_rfl), by kernel_rfl⟩
  have args : ∀ {w : World} {G : Nat → Prop} {τ : Nat → Gh} {b : Nat} {vals : Array Value}, (τ 0).blk = some b → repL w G τ [.ptr 0 0 0 2, .clo (.func 25) [.ptr 0 0 0 0] []] vals.toList →
      vals = #[.pointer (some ⟨b, 2, none⟩), .func (.func 25) #[.pointer (some ⟨b, 0, none⟩)] #[]] := by
    intro w G τ b vals hb ha
    obtain ⟨l⟩ := vals
    match l, ha with
    | [p, f], ha =>
      simp only [repL, V.rep, and_true] at ha
      obtain ⟨⟨b1, e1, rfl⟩, xs, ys, rfl, e3, e4⟩ := ha
      rw [hb] at e1; cases e1
      obtain ⟨xs⟩ := xs
      obtain ⟨ys⟩ := ys
      match xs, e3, ys, e4 with
      | [x], e3, [], _ =>
        simp only [repL, V.rep, and_true] at e3
        obtain ⟨b2, e2, rfl⟩ := e3
        rw [hb] at e2; cases e2
        rfl
  cases hn : d.nl with
  | false =>
    have hds : ({d with nl := false} : Dv) = d := by cases d; simp at hn; simp [hn]
    rw [hds]
    refine Contract.renMap (cells := d.cells 1) (cells' := d.cells 2) rfl ⟨hgo, fun w G X τ vals hm hX ha => ?_⟩ (fun _ _ h => by simpa only [V.rep] using h) (fun h0 h2 h => ?_)
    · obtain ⟨b, x4, t, fz, k1, k2, k3, k4, k5⟩ := dv_at hm
      rw [args k1 ha]
      refine Calls.mono (oDone b 1 (by decide) _ w (by rw [cell_of_heap k2]; simp [hn])) ?_
      rintro e w' ⟨rfl, rfl⟩
      refine ⟨_, G, τ, rfl, Ext.refl _ _ _ _, fun _ _ => rfl, by simp only [V.rep, V.repI], ?_⟩
      have e : objsAt' [some (.box (d.cells 1)), some (.nest (.mp d.nl (mE d.fs)) [])] = objsAt [d.box 1, d.map] := by
        funext i
        match i with
        | 0 => rfl
        | 1 => rfl
        | i + 2 => rfl
      rw [e]; exact hm
    · revert h
      simp only [Dv.cells]
      rename_i xs
      match xs with
      | [a, b, c, e, f, g, h] =>
        simp only [repL, V.rep, V.repI, h2]
        exact id
      | [] | [_] | [_, _] | [_, _, _] | [_, _, _, _] | [_, _, _, _, _] | [_, _, _, _, _, _] => simp [repL]
      | _ :: _ :: _ :: _ :: _ :: _ :: _ :: _ :: _ => simp [repL]
  | true =>
    refine ⟨hgo, fun w G X τ vals hm hX ha => ?_⟩
    obtain ⟨b, x4, t, fz, k1, k2, k3, k4, k5⟩ := dv_at hm
    have hblt : b < w.heap.size := lt_of_get k2
    rw [args k1 ha]
    have hcell : ∀ i (hi : i < 7), w.cell? ⟨b, i, none⟩ = #[Value.int .i64 d.room, .int .i64 d.used, .int .u32 (bif d.nl then 0 else 1), .int .i32 0, .int .u32 0, x4, .int .i64 d.fuse][i]? := fun i _ => cell_of_heap k2
    refine Calls.mono (oDo b x4 w hblt (by rw [hcell 2 (by omega)]; simp [hn]) (by rw [hcell 3 (by omega)]; rfl) (by rw [hcell 5 (by omega)]; rfl) (fr_at k2 k5 (by omega)) (fr_at k2 k5 (by omega)) (fr_at k2 k5 (by omega))) ?_
    rintro e w' ⟨rfl, rfl⟩
    have hcl : Closed [0, 1] (objsAt [d.box 1, d.map]) := by
      intro i o ho
      match i, ho with
      | 0, ho =>
        simp only [objsAt, List.getElem?_cons_zero, Option.some.injEq] at ho
        subst ho
        exact ⟨by simp, fun j hj => by simp [Dv.box, Dv.cells, idsObj, idsL, V.ids, I] at hj; simp [hj]⟩
      | 1, ho =>
        simp only [objsAt, List.getElem?_cons_succ, List.getElem?_cons_zero, Option.some.injEq] at ho
        subst ho
        exact ⟨by simp, fun j hj => by simp [Dv.map, idsObj] at hj⟩
      | i + 2, ho => simp [objsAt] at ho
    obtain ⟨m1, x1⟩ := Mem.newMap (site := 2) hm (Nat.le_refl _) hcl (by simp)
    -- the world behind
    have hW : (madeW b w).heap.size = (w.alloc (.map #[] 0)).heap.size ∧ (madeW b w).heap[b]? = some (.cells #[.int .i64 d.room, .int .i64 d.used, .int .u32 1, .int .i32 0, .int .u32 0, .map (some w.heap.size), .int .i64 d.fuse] t fz) ∧
        (∀ k, k ≠ b → (madeW b w).heap[k]? = (w.alloc (.map #[] 0)).heap[k]?) ∧ (madeW b w).os = w.os ∧ (madeW b w).tape = w.tape ∧ (madeW b w).output = w.output := by
      have g1 := setCell_heap (i := 3) (.int .i32 1) k2
      have g2 := setCell_heap (i := 5) (.map (some w.heap.size)) g1
      have g3 : (((w.setCell ⟨b, 3, none⟩ (.int .i32 1)).setCell ⟨b, 5, none⟩ (.map (some w.heap.size))).alloc (.map #[] 0)).heap[b]? = _ := (alloc_get _ _ b (lt_of_get g2)).trans g2
      have g4 := setCell_heap (w := (((w.setCell ⟨b, 3, none⟩ (.int .i32 1)).setCell ⟨b, 5, none⟩ (.map (some w.heap.size))).alloc (.map #[] 0)).drew) (i := 2) (.int .u32 1) g3
      have g5 := setCell_heap (i := 3) (.int .i32 0) g4
      refine ⟨by simp [madeW], ?_, fun k hk => ?_, rfl, rfl, rfl⟩
      · have : (madeW b w).heap[b]? = _ := g5
        rw [this]; rfl
      · unfold madeW
        rw [heap_setCell_other _ ⟨b, 3, none⟩ k _ hk, heap_setCell_other _ ⟨b, 2, none⟩ k _ hk]
        show (((w.setCell ⟨b, 3, none⟩ (.int .i32 1)).setCell ⟨b, 5, none⟩ (.map (some w.heap.size))).heap.push _)[k]? = (w.heap.push _)[k]?
        rw [Array.getElem?_push, Array.getElem?_push, heap_setCell_other _ ⟨b, 5, none⟩ k _ hk, heap_setCell_other _ ⟨b, 3, none⟩ k _ hk]
        simp
    obtain ⟨w1, w2, w3, w4, w5, w6⟩ := hW
    have hs2 : ∀ i, i ≠ 2 → setGh τ 2 ⟨some w.heap.size, none, 0, 0⟩ i = τ i := fun i hi => setGh_ne hi
    have m2 := Mem.set (id := 0) (b := b) (w' := madeW b w) (o' := {d with nl := false}.box 2) m1 (o := d.box 1) rfl (by rw [hs2 0 (by omega)]; exact k1) w1 w3 (by
      simp only [Dv.box, Dv.cells, Obj.ok]
      refine ⟨b, _, t, fz, by rw [hs2 0 (by omega)]; exact k1, w2, k4, k5, ?_⟩
      simp [repL, V.rep, V.repI, setGh_same, I])
    refine ⟨_, G, _, rfl, ?_, fun i hi => hs2 i (by simp at hi; omega), by simp only [V.rep, V.repI], ?_⟩
    · refine ⟨w4, w5, w6, by rw [w1, alloc_size]; omega, fun k hk hx => ?_, fun k hk => ⟨hk, ?_⟩, fun k hk => .inl hk⟩
      · have hkb : k ≠ b := fun e => by
          subst e
          rcases hm.own 0 _ k rfl k1 with h | h
          · omega
          · exact hx h
        rw [w3 k hkb]; exact x1.block k hk hx
      · rw [w3 k (fun e => k4 (e ▸ hk))]; exact (x1.keep k hk).2
    · have hfs := hd hn
      have sub : ∀ i p, objsAt' [some ({d with nl := false}.box 2), none, some {d with nl := false}.map] i = some p → putSt (putSt (objsAt [d.box 1, d.map]) [(2, some (.nest (.mp false []) []))]) [(0, some ({d with nl := false}.box 2))] i = some p := by
        intro i p hp
        match i, hp with
        | 0, hp => simpa [objsAt', putSt] using hp
        | 1, hp => simp [objsAt'] at hp
        | 2, hp => simpa [objsAt', putSt, Dv.map, mE, hfs] using hp
        | i + 3, hp => simp [objsAt'] at hp
      exact ⟨m2.gold, fun i p hp => m2.ok i p (sub i p hp), fun i p k hp => m2.own i p k (sub i p hp), fun i j p q k hp hq => m2.inj i j p q k (sub i p hp) (sub j q hq), Sub.less m2.sub (fun i p hp _ => sub i p hp) (fun i p hp => ⟨p, sub i p hp⟩)⟩
end Go.Proofs.YtinfjnnffmlpmaaGreatDoor

/- a device: what needs no file. -/
namespace Go.Proofs.YtinfjnnffmlpmaaGreatDoor
open E
set_option maxRecDepth 100000
set_option linter.unusedVariables false
set_option linter.unusedSimpArgs false

theorem cMay_0 (d : Dv)  (tq0 : (Dv.fuse d == (0 : Int)) = true) : Contract Tryz.prog 22 [.ptr 0 0 0 0] [d.box 1, d.map] (I (5 : Int)) ([some (Obj.box [I (Dv.room d), I (Dv.used d), V.val (Value.int IntKind.u32 (bif Dv.nl d then (0 : Int) else (1 : Int))), V.val (Value.int IntKind.i32 (0 : Int)), V.val (Value.int IntKind.u32 (0 : Int)), V.mref (1 : Nat), I (Dv.fuse d)]), some (Obj.nest (Nest.mp (Dv.nl d) (mE (Dv.fs d))) [])]) :=
  vcP hmix [.reg 3 [(5, [], some true)]] [] [
      (Dv.fuse d == (0 : Int)) = true] (by kernel_rfl)
    (by
      have d0 := tq0
      try simp only [Int.ofNat_eq_natCast, List.length_map, Bool.not_eq_true', Bool.not_eq_false', decide_eq_true_eq, decide_eq_false_iff_not] at d0
      simp only [allP]
      and_intros <;> first
        | omega)

theorem cMay_1 (d : Dv)  (tq0 : (Dv.fuse d == (0 : Int)) = false) : Contract Tryz.prog 22 [.ptr 0 0 0 0] [d.box 1, d.map] (I (0 : Int)) ([some (Obj.box [I (Dv.room d), I (Dv.used d), V.val (Value.int IntKind.u32 (bif Dv.nl d then (0 : Int) else (1 : Int))), V.val (Value.int IntKind.i32 (0 : Int)), V.val (Value.int IntKind.u32 (0 : Int)), V.mref (1 : Nat), I (Dv.fuse d)]), some (Obj.nest (Nest.mp (Dv.nl d) (mE (Dv.fs d))) [])]) :=
  vcP hmix [.reg 3 [(5, [], some false)]] [] [
      (Dv.fuse d == (0 : Int)) = false] (by kernel_rfl)
    (by
      have d0 := tq0
      try simp only [Int.ofNat_eq_natCast, List.length_map, Bool.not_eq_true', Bool.not_eq_false', decide_eq_true_eq, decide_eq_false_iff_not] at d0
      simp only [allP]
      and_intros <;> first
        | omega)

theorem cMay (d : Dv)  : Contract Tryz.prog 22 [.ptr 0 0 0 0] [d.box 1, d.map] (I (bif decide (d.fuse = 0) then 5 else 0)) [some (d.box 1), some d.map] := by
  rcases tf (Dv.fuse d == (0 : Int)) with tq0 | tq0
  · exact Contract.cast (by
      first
        | ((try simp only [Int.ofNat_eq_natCast, List.length_map, Bool.not_eq_true', Bool.not_eq_false', decide_eq_true_eq, decide_eq_false_iff_not] at tq0); simp only [Bool.cond_eq_ite, Bool.and_eq_true, Bool.or_eq_true, Bool.not_eq_true', decide_eq_true_eq, beq_iff_eq, beq_eq_false_iff_ne, ne_eq]; (repeat' split) <;> first | rfl | (exfalso; omega) | omega | (simp_all; done) | (exfalso; simp_all; omega))) (by
      first
        | rfl) (cMay_0 d  tq0)
  · exact Contract.cast (by
      first
        | ((try simp only [Int.ofNat_eq_natCast, List.length_map, Bool.not_eq_true', Bool.not_eq_false', decide_eq_true_eq, decide_eq_false_iff_not] at tq0); simp only [Bool.cond_eq_ite, Bool.and_eq_true, Bool.or_eq_true, Bool.not_eq_true', decide_eq_true_eq, beq_iff_eq, beq_eq_false_iff_ne, ne_eq]; (repeat' split) <;> first | rfl | (exfalso; omega) | omega | (simp_all; done) | (exfalso; simp_all; omega))) (by
      first
        | rfl) (cMay_1 d  tq0)

/-- A call went through. -/
def Dv.went (d : Dv) : Dv := { d with fuse := bif decide (d.fuse > 0) then d.fuse - 1 else d.fuse }
theorem cDone__0 (d : Dv) (hf : d.fuse ≤ 9223372036854775807) (tq0 : (decide (Dv.fuse d > (0 : Int))) = true) : Contract Tryz.prog 27 [.ptr 0 0 0 0] [d.box 1, d.map] (I (0 : Int)) ([some (Obj.box [I (Dv.room d), I (Dv.used d), V.val (Value.int IntKind.u32 (bif Dv.nl d then (0 : Int) else (1 : Int))), V.val (Value.int IntKind.i32 (0 : Int)), V.val (Value.int IntKind.u32 (0 : Int)), V.mref (1 : Nat), I (Dv.fuse d + (-1 : Int))]), some (Obj.nest (Nest.mp (Dv.nl d) (mE (Dv.fs d))) [])]) :=
  vcP hmix [.reg 1 [(4, [], some true)], .reg 2 [(4, [.be (I (d.fuse - 1))], none)]] [] [
      decide (Dv.fuse d > (0 : Int)) = true,
      IntKind.wrap IntKind.i64 (Dv.fuse d + (-1 : Int)) = Dv.fuse d + (-1 : Int)] (by kernel_rfl)
    (by
      have d0 := tq0
      try simp only [Int.ofNat_eq_natCast, List.length_map, Bool.not_eq_true', Bool.not_eq_false', decide_eq_true_eq, decide_eq_false_iff_not] at d0
      simp only [allP]
      and_intros <;> first
        | omega
        | exact i64_small (by omega))

theorem cDone__1 (d : Dv) (hf : d.fuse ≤ 9223372036854775807) (tq0 : (decide (Dv.fuse d > (0 : Int))) = false) : Contract Tryz.prog 27 [.ptr 0 0 0 0] [d.box 1, d.map] (I (0 : Int)) ([some (Obj.box [I (Dv.room d), I (Dv.used d), V.val (Value.int IntKind.u32 (bif Dv.nl d then (0 : Int) else (1 : Int))), V.val (Value.int IntKind.i32 (0 : Int)), V.val (Value.int IntKind.u32 (0 : Int)), V.mref (1 : Nat), I (Dv.fuse d)]), some (Obj.nest (Nest.mp (Dv.nl d) (mE (Dv.fs d))) [])]) :=
  vcP hmix [.reg 1 [(4, [], some false)]] [] [
      decide (Dv.fuse d > (0 : Int)) = false] (by kernel_rfl)
    (by
      have d0 := tq0
      try simp only [Int.ofNat_eq_natCast, List.length_map, Bool.not_eq_true', Bool.not_eq_false', decide_eq_true_eq, decide_eq_false_iff_not] at d0
      simp only [allP]
      and_intros <;> first
        | omega)

theorem cDone_ (d : Dv) (hf : d.fuse ≤ 9223372036854775807) : Contract Tryz.prog 27 [.ptr 0 0 0 0] [d.box 1, d.map] (I 0) [some (d.went.box 1), some d.map] := by
  rcases tf (decide (Dv.fuse d > (0 : Int))) with tq0 | tq0
  · exact Contract.cast (by
      first
        | rfl) (by
      first
        | (simp only [Dv.went, Dv.box, Dv.cells, Dv.map, tq0, cond_true, cond_false]; rfl)) (cDone__0 d hf tq0)
  · exact Contract.cast (by
      first
        | rfl) (by
      first
        | (simp only [Dv.went, Dv.box, Dv.cells, Dv.map, tq0, cond_true, cond_false]; done)) (cDone__1 d hf tq0)

theorem cUsed_0 (d : Dv)  : Contract Tryz.prog 23 [.ptr 0 0 0 0] [d.box 1, d.map] (I (Dv.used d)) ([some (Obj.box [I (Dv.room d), I (Dv.used d), V.val (Value.int IntKind.u32 (bif Dv.nl d then (0 : Int) else (1 : Int))), V.val (Value.int IntKind.i32 (0 : Int)), V.val (Value.int IntKind.u32 (0 : Int)), V.mref (1 : Nat), I (Dv.fuse d)]), some (Obj.nest (Nest.mp (Dv.nl d) (mE (Dv.fs d))) [])]) :=
  vcP hmix [.reg 3 [(3, [.cellc .i64 d.used (.int .i64 d.used)], none)]] [] [
      CellC Tryz.prog (41 : Nat) IntKind.i64 (Dv.used d) (Dv.used d) [] (Value.int IntKind.i64 (Dv.used d))] (by kernel_rfl)
    (by
      simp only [allP]
      and_intros <;> first
        | exact loadC)

theorem cUsed (d : Dv)  : Contract Tryz.prog 23 [.ptr 0 0 0 0] [d.box 1, d.map] (I d.used) [some (d.box 1), some d.map] := by
  exact Contract.cast (by
    first
      | rfl) (by
    first
      | rfl) (cUsed_0 d  )

theorem cFuse_0 (d : Dv) (n : Int)  : Contract Tryz.prog 10 [.ptr 0 0 0 0, I n] [d.box 1, d.map] (V.tup []) ([some (Obj.box [I (Dv.room d), I (Dv.used d), V.val (Value.int IntKind.u32 (bif Dv.nl d then (0 : Int) else (1 : Int))), V.val (Value.int IntKind.i32 (0 : Int)), V.val (Value.int IntKind.u32 (0 : Int)), V.mref (1 : Nat), I (if (-1 : Int) > n then (-1 : Int) else n)]), some (Obj.nest (Nest.mp (Dv.nl d) (mE (Dv.fs d))) [])]) :=
  vcP hmix [] [] [
      ] (by kernel_rfl)
    trivial

theorem cFuse (d : Dv) (n : Int)  : Contract Tryz.prog 10 [.ptr 0 0 0 0, I n] [d.box 1, d.map] (.tup []) [some ({d with fuse := if (-1 : Int) > n then -1 else n}.box 1), some d.map] := by
  exact Contract.cast (by
    first
      | rfl) (by
    first
      | rfl) (cFuse_0 d n  )

theorem cNew__0 (room : Int)  : Contract Tryz.prog 6 [I room] [] (V.ptr (0 : Nat) (0 : Nat) (0 : Nat) (0 : Nat)) ([some (Obj.box [I (if room > (0 : Int) then room else (0 : Int)), I (0 : Int), V.val (Value.int IntKind.u32 (0 : Int)), V.val (Value.int IntKind.i32 (0 : Int)), V.val (Value.int IntKind.u32 (0 : Int)), V.val (Value.map none), I (-1 : Int)])]) :=
  vcP hmix [] [204000] [
      ] (by kernel_rfl)
    trivial

theorem cNew_ (room : Int)  : Contract Tryz.prog 6 [I room] [] (.ptr 0 0 0 0) [some (.box [I (if (0 : Int) < room then room else 0), I 0, .val (.int .u32 0), .val (.int .i32 0), .val (.int .u32 0), .val (.map none), I (-1)])] := by
  exact Contract.cast (by
    first
      | rfl) (by
    first
      | rfl) (cNew__0 room  )

def newD (room : Int) : Dv := ⟨if (0 : Int) < room then room else 0, 0, true, [], -1⟩
theorem cNew (room : Int) : Contract Tryz.prog 6 [I room] [] (.ptr 0 0 0 0) [some ((newD room).box 1), some (newD room).map] := by
  refine Contract.nilMap (cNew_ room) (fun h0 h => by simpa only [V.rep, h0] using h) (by simp [idsL, V.ids, I]) (fun {w G τ τ' xs} h0 h1 h => ?_)
  simp only [newD, Dv.cells, I, cond_true]
  match xs, h with
  | [a, b, c, e, f, g, q], h => simpa only [repL, V.rep, V.repI, h1, I] using h
end Go.Proofs.YtinfjnnffmlpmaaGreatDoor

/- a device: Append. -/
namespace Go.Proofs.YtinfjnnffmlpmaaGreatDoor
open E
set_option maxRecDepth 100000
set_option linter.unusedVariables false
set_option linter.unusedSimpArgs false

theorem cMay0 (d : Dv) (hf : d.fuse ≠ 0) : Contract Tryz.prog 22 [.ptr 0 0 0 0] [d.box 1, d.map] (I 0) [some (d.box 1), some d.map] := by
  have := cMay d
  rwa [show (bif decide (d.fuse = 0) then (5 : Int) else 0) = 0 by simp [hf]] at this
theorem cMay5 (d : Dv) (hf : d.fuse = 0) : Contract Tryz.prog 22 [.ptr 0 0 0 0] [d.box 1, d.map] (I 5) [some (d.box 1), some d.map] := by
  have := cMay d
  rwa [show (bif decide (d.fuse = 0) then (5 : Int) else 0) = 5 by simp [hf]] at this

/-- Where a file stands. -/
def fat (fs : Fs) (s : ByteArray) : Option Nat := fs.findIdx? fun p => s == p.1
theorem fidx_mE (fs : Fs) (s : ByteArray) : fidx (mE fs) s = fat fs s := by
  unfold fidx fat mE
  induction fs with
  | nil => rfl
  | cons p fs ih => simp only [List.map_cons, List.findIdx?_cons, ih]
theorem mE_at {fs : Fs} {i : Nat} {s : ByteArray} {f : Fi} (h : fs[i]? = some (s, f)) : (mE fs)[i]? = some (s, Inn.box 1 (f.bs.map bR) [I f.sure]) := by
  unfold mE; rw [List.getElem?_map, h]; rfl
theorem mE_set {fs : Fs} {i : Nat} {s : ByteArray} {c : Inn} (bs : List UInt8) (n : Int) : (((mE fs).set i (s, c)).set i (s, Inn.box 1 (bs.map bR) [I n])) = mE (fs.set i (s, ⟨bs, n⟩)) := by
  rw [List.set_set]; unfold mE; rw [List.map_set]; rfl
theorem mE_get {fs : Fs} {i : Nat} {p : ByteArray × Fi} {s : ByteArray} {c : Inn} (h : fs[i]? = some p) : ((mE fs).set i (s, c))[i]? = some (s, c) := by
  have := (List.getElem?_eq_some_iff.1 h).1
  rw [List.getElem?_set, if_pos rfl, if_pos (by unfold mE; simpa using this)]
theorem mE_ids (fs : Fs) : ∀ p ∈ mE fs, p.2.ids = [] := by
  intro p hp
  obtain ⟨q, _, rfl⟩ := List.mem_map.1 hp
  rfl
theorem mE_push (fs : Fs) (s : ByteArray) (bs : List UInt8) (n : Int) (c : Inn) : (mE fs ++ [(s, c)]).set fs.length (s, Inn.box 1 (bs.map bR) [I n]) = mE (fs ++ [(s, ⟨bs, n⟩)]) := by
  unfold mE
  rw [List.map_append, List.set_append_right _ _ (by simp)]
  simp [Fi.inn]
theorem mE_last (fs : Fs) (s : ByteArray) (c : Inn) : (mE fs ++ [(s, c)])[fs.length]? = some (s, c) := by
  unfold mE
  rw [List.getElem?_append_right (by simp)]
  simp
theorem mE_flat (fs : Fs) : innFlat ((mE fs).map (·.2)) := by
  intro c hc
  obtain ⟨p, hp, rfl⟩ := List.mem_map.1 hc
  obtain ⟨q, _, rfl⟩ := List.mem_map.1 hp
  exact ⟨flatB _, rfl⟩
theorem mE_erase (fs : Fs) (i : Nat) : (mE fs).eraseIdx i = mE (fs.eraseIdx i) := by
  unfold mE; rw [map_erase]
theorem cAppA_0 (d : Dv) (s : ByteArray) (b : List UInt8) (i : Nat) (f : Fi) (hf : d.fuse ≠ 0) (hu : d.fuse ≤ 9223372036854775807) (hs : (ByteArray.toList s == []) = false) (hb : (b.length : Int) ≤ d.room - d.used) (hr : d.room ≤ 9223372036854775807) (h0 : 0 ≤ d.used) (hn : d.nl = true → d.fs = []) (hi : fat d.fs s = some i) (ha : d.fs[i]? = some (s, f)) (hl : f.bs.length + b.length ≤ 1000000000) : Contract Tryz.prog 8 [.ptr 0 0 0 0, .val (.string s), .sl 1 (b.map bR)] [d.box 1, d.map] (I (0 : Int)) ([some (Obj.box [I (Dv.room d), I (Dv.used d + Int.ofNat (List.length b)), V.val (Value.int IntKind.u32 (1 : Int)), V.val (Value.int IntKind.i32 (0 : Int)), V.val (Value.int IntKind.u32 (0 : Int)), V.mref (2 : Nat), I (bif decide (Dv.fuse d > (0 : Int)) then Dv.fuse d + (-1 : Int) else Dv.fuse d)]), none, some (Obj.nest (Nest.mp false (mE (List.set (Dv.fs d) i (s, { bs := Fi.bs f ++ b, sure := Fi.sure f })))) [])]) :=
  vcP hmix [.reg 1 [(1, [.call [0, 1] [] (I 0) [some (d.box 1), some d.map]], none)], .reg 4 [(1, [], some false)], .reg 6 [(5, [.cst 0 0 (I d.room)], none), (7, [.call [0, 1] [] (I d.used) [some (d.box 1), some d.map]], none), (8, [.be (I (d.room - d.used))], none), (9, [], some false)], .reg 8 [(5, [.call [0, 1] [] (.val (.tuple #[])) [some ({d with nl := false}.box 2), none, some {d with nl := false}.map]], none)], .reg 9 [(5, [.idx i, .inn (.box 1 (f.bs.map bR) [I f.sure])], none)], .reg 13 [(6, [.beO ((f.bs ++ b).map bR)], none), (9, [.shutM 1606001 i s 1806000 (mE (d.fs.set i (s, ⟨f.bs ++ b, f.sure⟩)))], none)], .reg 14 [(5, [.cellc .i64 (d.used + b.length) (.int .i64 (d.used + b.length))], none)], .reg 15 [(1, [.call [0, 1606001] [] (I 0) [some ((⟨d.room, d.used + b.length, false, d.fs.set i (s, ⟨f.bs ++ b, f.sure⟩), d.fuse⟩ : Dv).went.box 1), some (⟨d.room, d.used + b.length, false, d.fs.set i (s, ⟨f.bs ++ b, f.sure⟩), d.fuse⟩ : Dv).went.map]], none)]] [1606001] [
      Contract Tryz.prog (22 : Nat) [V.ptr (0 : Nat) (0 : Nat) (0 : Nat) (0 : Nat)] [Obj.box [I (Dv.room d), I (Dv.used d), V.val (Value.int IntKind.u32 (bif Dv.nl d then (0 : Int) else (1 : Int))), V.val (Value.int IntKind.i32 (0 : Int)), V.val (Value.int IntKind.u32 (0 : Int)), V.mref (1 : Nat), I (Dv.fuse d)], Obj.nest (Nest.mp (Dv.nl d) (mE (Dv.fs d))) []] (I (0 : Int)) [some (Obj.box [I (Dv.room d), I (Dv.used d), V.val (Value.int IntKind.u32 (bif Dv.nl d then (0 : Int) else (1 : Int))), V.val (Value.int IntKind.i32 (0 : Int)), V.val (Value.int IntKind.u32 (0 : Int)), V.mref (1 : Nat), I (Dv.fuse d)]), some (Obj.nest (Nest.mp (Dv.nl d) (mE (Dv.fs d))) [])],
      (ByteArray.toList s == []) = false,
      cellIs (some (Obj.box [I (Dv.room d), I (Dv.used d), V.val (Value.int IntKind.u32 (bif Dv.nl d then (0 : Int) else (1 : Int))), V.val (Value.int IntKind.i32 (0 : Int)), V.val (Value.int IntKind.u32 (0 : Int)), V.mref (1 : Nat), I (Dv.fuse d)])) (0 : Nat) (I (Dv.room d)),
      Contract Tryz.prog (23 : Nat) [V.ptr (0 : Nat) (0 : Nat) (0 : Nat) (0 : Nat)] [Obj.box [I (Dv.room d), I (Dv.used d), V.val (Value.int IntKind.u32 (bif Dv.nl d then (0 : Int) else (1 : Int))), V.val (Value.int IntKind.i32 (0 : Int)), V.val (Value.int IntKind.u32 (0 : Int)), V.mref (1 : Nat), I (Dv.fuse d)], Obj.nest (Nest.mp (Dv.nl d) (mE (Dv.fs d))) []] (I (Dv.used d)) [some (Obj.box [I (Dv.room d), I (Dv.used d), V.val (Value.int IntKind.u32 (bif Dv.nl d then (0 : Int) else (1 : Int))), V.val (Value.int IntKind.i32 (0 : Int)), V.val (Value.int IntKind.u32 (0 : Int)), V.mref (1 : Nat), I (Dv.fuse d)]), some (Obj.nest (Nest.mp (Dv.nl d) (mE (Dv.fs d))) [])],
      cellIs (some (Obj.box [I (Dv.room d), I (Dv.used d), V.val (Value.int IntKind.u32 (bif Dv.nl d then (0 : Int) else (1 : Int))), V.val (Value.int IntKind.i32 (0 : Int)), V.val (Value.int IntKind.u32 (0 : Int)), V.mref (1 : Nat), I (Dv.fuse d)])) (0 : Nat) (I (Dv.room d)),
      IntKind.wrap IntKind.i64 (Dv.room d + -Dv.used d) = Dv.room d + -Dv.used d,
      decide (Int.ofNat (List.length (List.map bR b)) > Dv.room d + -Dv.used d) = false,
      Contract Tryz.prog (24 : Nat) [V.ptr (0 : Nat) (0 : Nat) (0 : Nat) (2 : Nat), V.clo (Fn.func (25 : Nat)) [V.ptr (0 : Nat) (0 : Nat) (0 : Nat) (0 : Nat)] []] [Obj.box [I (Dv.room d), I (Dv.used d), V.val (Value.int IntKind.u32 (bif Dv.nl d then (0 : Int) else (1 : Int))), V.val (Value.int IntKind.i32 (0 : Int)), V.val (Value.int IntKind.u32 (0 : Int)), V.mref (1 : Nat), I (Dv.fuse d)], Obj.nest (Nest.mp (Dv.nl d) (mE (Dv.fs d))) []] (V.val (Value.tuple { toList := [] })) [some (Obj.box [I (Dv.room d), I (Dv.used d), V.val (Value.int IntKind.u32 (1 : Int)), V.val (Value.int IntKind.i32 (0 : Int)), V.val (Value.int IntKind.u32 (0 : Int)), V.mref (2 : Nat), I (Dv.fuse d)]), none, some (Obj.nest (Nest.mp false (mE (Dv.fs d))) [])],
      fidx (mE (Dv.fs d)) s = some i,
      (mE (Dv.fs d))[i]? = some (s, Inn.box (1 : Nat) (List.map bR (Fi.bs f)) [I (Fi.sure f)]),
      (List.length (List.map bR (Fi.bs f)) + List.length (List.map bR b)) * (1 : Nat) ≤ (140737488355328 : Nat),
      List.map bR (Fi.bs f) ++ List.map bR b = List.map bR (Fi.bs f ++ b),
      (List.set (mE (Dv.fs d)) i (s, Inn.hole (V.ptr (1806000 : Nat) (0 : Nat) (0 : Nat) (0 : Nat))))[i]? = some (s, Inn.hole (V.ptr (1806000 : Nat) (0 : Nat) (0 : Nat) (0 : Nat))),
      List.set (List.set (mE (Dv.fs d)) i (s, Inn.hole (V.ptr (1806000 : Nat) (0 : Nat) (0 : Nat) (0 : Nat)))) i (s, Inn.box (1 : Nat) (List.map bR (Fi.bs f ++ b)) [I (Fi.sure f)]) = mE (List.set (Dv.fs d) i (s, { bs := Fi.bs f ++ b, sure := Fi.sure f })),
      ∀ (p0 : ByteArray × Inn), List.Mem p0 (mE (List.set (Dv.fs d) i (s, { bs := Fi.bs f ++ b, sure := Fi.sure f }))) → Inn.ids (Prod.snd p0) = [],
      CellC Tryz.prog (26 : Nat) IntKind.i64 (Dv.used d) (Dv.used d + Int.ofNat (List.length b)) [Value.int IntKind.i64 (Int.ofNat (List.length (List.map bR b)))] (Value.int IntKind.i64 (Dv.used d + Int.ofNat (List.length b))),
      Contract Tryz.prog (27 : Nat) [V.ptr (0 : Nat) (0 : Nat) (0 : Nat) (0 : Nat)] [Obj.box [I (Dv.room d), I (Dv.used d + Int.ofNat (List.length b)), V.val (Value.int IntKind.u32 (1 : Int)), V.val (Value.int IntKind.i32 (0 : Int)), V.val (Value.int IntKind.u32 (0 : Int)), V.mref (1 : Nat), I (Dv.fuse d)], Obj.nest (Nest.mp false (mE (List.set (Dv.fs d) i (s, { bs := Fi.bs f ++ b, sure := Fi.sure f })))) []] (I (0 : Int)) [some (Obj.box [I (Dv.room d), I (Dv.used d + Int.ofNat (List.length b)), V.val (Value.int IntKind.u32 (1 : Int)), V.val (Value.int IntKind.i32 (0 : Int)), V.val (Value.int IntKind.u32 (0 : Int)), V.mref (1 : Nat), I (bif decide (Dv.fuse d > (0 : Int)) then Dv.fuse d + (-1 : Int) else Dv.fuse d)]), some (Obj.nest (Nest.mp false (mE (List.set (Dv.fs d) i (s, { bs := Fi.bs f ++ b, sure := Fi.sure f })))) [])]] (by kernel_rfl)
    (by
      simp only [allP]
      and_intros <;> first
        | omega
        | exact cMay0 d hf
        | exact cUsed d
        | exact cOnce d hn
        | exact cDone_ (⟨d.room, d.used + b.length, false, d.fs.set i (s, ⟨f.bs ++ b, f.sure⟩), d.fuse⟩ : Dv) hu
        | exact mE_ids _
        | exact mE_at ha
        | (rw [fidx_mE]; exact hi)
        | exact mE_set _ _
        | exact mE_get ha
        | rfl
        | exact addC (by rw [i64_small (by simp; omega)]; simp)
        | exact i64_small (by omega)
        | exact (List.map_append ..).symm
        | (simp; omega))

theorem cAppA (d : Dv) (s : ByteArray) (b : List UInt8) (i : Nat) (f : Fi) (hf : d.fuse ≠ 0) (hu : d.fuse ≤ 9223372036854775807) (hs : (ByteArray.toList s == []) = false) (hb : (b.length : Int) ≤ d.room - d.used) (hr : d.room ≤ 9223372036854775807) (h0 : 0 ≤ d.used) (hn : d.nl = true → d.fs = []) (hi : fat d.fs s = some i) (ha : d.fs[i]? = some (s, f)) (hl : f.bs.length + b.length ≤ 1000000000) : Contract Tryz.prog 8 [.ptr 0 0 0 0, .val (.string s), .sl 1 (b.map bR)] [d.box 1, d.map] (I 0) [some ((⟨d.room, d.used + b.length, false, d.fs.set i (s, ⟨f.bs ++ b, f.sure⟩), d.fuse⟩ : Dv).went.box 2), none, some (⟨d.room, d.used + b.length, false, d.fs.set i (s, ⟨f.bs ++ b, f.sure⟩), d.fuse⟩ : Dv).went.map] := by
  exact Contract.cast (by
    first
      | rfl) (by
    first
      | rfl) (cAppA_0 d s b i f hf hu hs hb hr h0 hn hi ha hl )

theorem cAppB_0 (d : Dv) (s : ByteArray) (b : List UInt8) (hf : d.fuse ≠ 0) (hu : d.fuse ≤ 9223372036854775807) (hs : (ByteArray.toList s == []) = false) (hb : (b.length : Int) ≤ d.room - d.used) (hr : d.room ≤ 9223372036854775807) (h0 : 0 ≤ d.used) (hn : d.nl = true → d.fs = []) (hi : fat d.fs s = none) (hl : b.length ≤ 1000000000) : Contract Tryz.prog 8 [.ptr 0 0 0 0, .val (.string s), .sl 1 (b.map bR)] [d.box 1, d.map] (I (0 : Int)) ([some (Obj.box [I (Dv.room d), I (Dv.used d + Int.ofNat (List.length b)), V.val (Value.int IntKind.u32 (1 : Int)), V.val (Value.int IntKind.i32 (0 : Int)), V.val (Value.int IntKind.u32 (0 : Int)), V.mref (2 : Nat), I (bif decide (Dv.fuse d > (0 : Int)) then Dv.fuse d + (-1 : Int) else Dv.fuse d)]), none, some (Obj.nest (Nest.mp false (mE (Dv.fs d ++ [(s, { bs := b, sure := (0 : Int) })]))) [])]) :=
  vcP hmix [.reg 1 [(1, [.call [0, 1] [] (I 0) [some (d.box 1), some d.map]], none)], .reg 4 [(1, [], some false)], .reg 6 [(5, [.cst 0 0 (I d.room)], none), (7, [.call [0, 1] [] (I d.used) [some (d.box 1), some d.map]], none), (8, [.be (I (d.room - d.used))], none), (9, [], some false)], .reg 8 [(5, [.call [0, 1] [] (.val (.tuple #[])) [some ({d with nl := false}.box 2), none, some {d with nl := false}.map]], none)], .reg 9 [(5, [.row []], none)], .reg 13 [(6, [.beO (b.map bR)], none), (9, [.shutM 1606001 d.fs.length s 2202000 (mE (d.fs ++ [(s, ⟨b, 0⟩)]))], none)], .reg 14 [(5, [.cellc .i64 (d.used + b.length) (.int .i64 (d.used + b.length))], none)], .reg 15 [(1, [.call [0, 1606001] [] (I 0) [some ((⟨d.room, d.used + b.length, false, d.fs ++ [(s, ⟨b, 0⟩)], d.fuse⟩ : Dv).went.box 1), some (⟨d.room, d.used + b.length, false, d.fs ++ [(s, ⟨b, 0⟩)], d.fuse⟩ : Dv).went.map]], none)]] [1606001] [
      Contract Tryz.prog (22 : Nat) [V.ptr (0 : Nat) (0 : Nat) (0 : Nat) (0 : Nat)] [Obj.box [I (Dv.room d), I (Dv.used d), V.val (Value.int IntKind.u32 (bif Dv.nl d then (0 : Int) else (1 : Int))), V.val (Value.int IntKind.i32 (0 : Int)), V.val (Value.int IntKind.u32 (0 : Int)), V.mref (1 : Nat), I (Dv.fuse d)], Obj.nest (Nest.mp (Dv.nl d) (mE (Dv.fs d))) []] (I (0 : Int)) [some (Obj.box [I (Dv.room d), I (Dv.used d), V.val (Value.int IntKind.u32 (bif Dv.nl d then (0 : Int) else (1 : Int))), V.val (Value.int IntKind.i32 (0 : Int)), V.val (Value.int IntKind.u32 (0 : Int)), V.mref (1 : Nat), I (Dv.fuse d)]), some (Obj.nest (Nest.mp (Dv.nl d) (mE (Dv.fs d))) [])],
      (ByteArray.toList s == []) = false,
      cellIs (some (Obj.box [I (Dv.room d), I (Dv.used d), V.val (Value.int IntKind.u32 (bif Dv.nl d then (0 : Int) else (1 : Int))), V.val (Value.int IntKind.i32 (0 : Int)), V.val (Value.int IntKind.u32 (0 : Int)), V.mref (1 : Nat), I (Dv.fuse d)])) (0 : Nat) (I (Dv.room d)),
      Contract Tryz.prog (23 : Nat) [V.ptr (0 : Nat) (0 : Nat) (0 : Nat) (0 : Nat)] [Obj.box [I (Dv.room d), I (Dv.used d), V.val (Value.int IntKind.u32 (bif Dv.nl d then (0 : Int) else (1 : Int))), V.val (Value.int IntKind.i32 (0 : Int)), V.val (Value.int IntKind.u32 (0 : Int)), V.mref (1 : Nat), I (Dv.fuse d)], Obj.nest (Nest.mp (Dv.nl d) (mE (Dv.fs d))) []] (I (Dv.used d)) [some (Obj.box [I (Dv.room d), I (Dv.used d), V.val (Value.int IntKind.u32 (bif Dv.nl d then (0 : Int) else (1 : Int))), V.val (Value.int IntKind.i32 (0 : Int)), V.val (Value.int IntKind.u32 (0 : Int)), V.mref (1 : Nat), I (Dv.fuse d)]), some (Obj.nest (Nest.mp (Dv.nl d) (mE (Dv.fs d))) [])],
      cellIs (some (Obj.box [I (Dv.room d), I (Dv.used d), V.val (Value.int IntKind.u32 (bif Dv.nl d then (0 : Int) else (1 : Int))), V.val (Value.int IntKind.i32 (0 : Int)), V.val (Value.int IntKind.u32 (0 : Int)), V.mref (1 : Nat), I (Dv.fuse d)])) (0 : Nat) (I (Dv.room d)),
      IntKind.wrap IntKind.i64 (Dv.room d + -Dv.used d) = Dv.room d + -Dv.used d,
      decide (Int.ofNat (List.length (List.map bR b)) > Dv.room d + -Dv.used d) = false,
      Contract Tryz.prog (24 : Nat) [V.ptr (0 : Nat) (0 : Nat) (0 : Nat) (2 : Nat), V.clo (Fn.func (25 : Nat)) [V.ptr (0 : Nat) (0 : Nat) (0 : Nat) (0 : Nat)] []] [Obj.box [I (Dv.room d), I (Dv.used d), V.val (Value.int IntKind.u32 (bif Dv.nl d then (0 : Int) else (1 : Int))), V.val (Value.int IntKind.i32 (0 : Int)), V.val (Value.int IntKind.u32 (0 : Int)), V.mref (1 : Nat), I (Dv.fuse d)], Obj.nest (Nest.mp (Dv.nl d) (mE (Dv.fs d))) []] (V.val (Value.tuple { toList := [] })) [some (Obj.box [I (Dv.room d), I (Dv.used d), V.val (Value.int IntKind.u32 (1 : Int)), V.val (Value.int IntKind.i32 (0 : Int)), V.val (Value.int IntKind.u32 (0 : Int)), V.mref (2 : Nat), I (Dv.fuse d)]), none, some (Obj.nest (Nest.mp false (mE (Dv.fs d))) [])],
      fidx (mE (Dv.fs d)) s = none,
      false = false,
      fidx (mE (Dv.fs d)) s = none,
      List.length (List.map bR b) * (1 : Nat) ≤ (140737488355328 : Nat),
      List.map bR b = List.map bR b,
      (mE (Dv.fs d) ++ [(s, Inn.hole (V.ptr (2202000 : Nat) (0 : Nat) (0 : Nat) (0 : Nat)))])[List.length (Dv.fs d)]? = some (s, Inn.hole (V.ptr (2202000 : Nat) (0 : Nat) (0 : Nat) (0 : Nat))),
      List.set (mE (Dv.fs d) ++ [(s, Inn.hole (V.ptr (2202000 : Nat) (0 : Nat) (0 : Nat) (0 : Nat)))]) (List.length (Dv.fs d)) (s, Inn.box (1 : Nat) (List.map bR b) [I (0 : Int)]) = mE (Dv.fs d ++ [(s, { bs := b, sure := (0 : Int) })]),
      ∀ (p0 : ByteArray × Inn), List.Mem p0 (mE (Dv.fs d ++ [(s, { bs := b, sure := (0 : Int) })])) → Inn.ids (Prod.snd p0) = [],
      CellC Tryz.prog (26 : Nat) IntKind.i64 (Dv.used d) (Dv.used d + Int.ofNat (List.length b)) [Value.int IntKind.i64 (Int.ofNat (List.length (List.map bR b)))] (Value.int IntKind.i64 (Dv.used d + Int.ofNat (List.length b))),
      Contract Tryz.prog (27 : Nat) [V.ptr (0 : Nat) (0 : Nat) (0 : Nat) (0 : Nat)] [Obj.box [I (Dv.room d), I (Dv.used d + Int.ofNat (List.length b)), V.val (Value.int IntKind.u32 (1 : Int)), V.val (Value.int IntKind.i32 (0 : Int)), V.val (Value.int IntKind.u32 (0 : Int)), V.mref (1 : Nat), I (Dv.fuse d)], Obj.nest (Nest.mp false (mE (Dv.fs d ++ [(s, { bs := b, sure := (0 : Int) })]))) []] (I (0 : Int)) [some (Obj.box [I (Dv.room d), I (Dv.used d + Int.ofNat (List.length b)), V.val (Value.int IntKind.u32 (1 : Int)), V.val (Value.int IntKind.i32 (0 : Int)), V.val (Value.int IntKind.u32 (0 : Int)), V.mref (1 : Nat), I (bif decide (Dv.fuse d > (0 : Int)) then Dv.fuse d + (-1 : Int) else Dv.fuse d)]), some (Obj.nest (Nest.mp false (mE (Dv.fs d ++ [(s, { bs := b, sure := (0 : Int) })]))) [])]] (by kernel_rfl)
    (by
      simp only [allP]
      and_intros <;> first
        | omega
        | exact cMay0 d hf
        | exact cUsed d
        | exact cOnce d hn
        | exact cDone_ (⟨d.room, d.used + b.length, false, d.fs ++ [(s, ⟨b, 0⟩)], d.fuse⟩ : Dv) hu
        | exact mE_ids _
        | (rw [fidx_mE]; exact hi)
        | exact mE_push _ _ _ _ _
        | exact mE_last _ _ _
        | rfl
        | exact addC (by rw [i64_small (by simp; omega)]; simp)
        | exact i64_small (by omega)
        | (simp; done)
        | (simp; omega))

theorem cAppB (d : Dv) (s : ByteArray) (b : List UInt8) (hf : d.fuse ≠ 0) (hu : d.fuse ≤ 9223372036854775807) (hs : (ByteArray.toList s == []) = false) (hb : (b.length : Int) ≤ d.room - d.used) (hr : d.room ≤ 9223372036854775807) (h0 : 0 ≤ d.used) (hn : d.nl = true → d.fs = []) (hi : fat d.fs s = none) (hl : b.length ≤ 1000000000) : Contract Tryz.prog 8 [.ptr 0 0 0 0, .val (.string s), .sl 1 (b.map bR)] [d.box 1, d.map] (I 0) [some ((⟨d.room, d.used + b.length, false, d.fs ++ [(s, ⟨b, 0⟩)], d.fuse⟩ : Dv).went.box 2), none, some (⟨d.room, d.used + b.length, false, d.fs ++ [(s, ⟨b, 0⟩)], d.fuse⟩ : Dv).went.map] := by
  exact Contract.cast (by
    first
      | rfl) (by
    first
      | rfl) (cAppB_0 d s b hf hu hs hb hr h0 hn hi hl )

end Go.Proofs.YtinfjnnffmlpmaaGreatDoor

/- slices.Sorted(maps.Keys(m)): the contracts of the kit, laid (by its own tools). -/
namespace Go.Proofs
open Go.Shelf
def Tryz.keys47_ren : Go.Shelf.Ren := ⟨fun | 7 => 47 | 10 => 56 | n => n, fun | 23 => 62 | 26 => 9 | 3 => 71 | 28 => 93 | 0 => 0 | 27 => 92 | 33 => 101 | 4 => 4 | n => n, fun | n => n⟩
theorem Tryz.keys47 : Go.Proofs.SlLaysZ.n7 Tryz.prog Tryz.keys47_ren := {
  mixed := by kernel_rfl
  f7 := ⟨Tryz.f47.name, by decide, Tryz.func47.trans (congrArg some (by kernel_rfl))⟩
  f10 := ⟨Tryz.f56.name, by decide, Tryz.func56.trans (congrArg some (by kernel_rfl))⟩
  t0 := Tryz.underlying0
  a0 := Tryz.isAgg0
  z0 := Tryz.sizeOf0
  v0 := Tryz.zeroValue0
  t4 := Tryz.underlying4
  a4 := Tryz.isAgg4
  z4 := Tryz.sizeOf4
  v4 := Tryz.zeroValue4
  t23 := Tryz.underlying62
  a23 := Tryz.isAgg62
  z23 := Tryz.sizeOf62
  v23 := Tryz.zeroValue62
  t26 := Tryz.underlying9
  a26 := Tryz.isAgg9
  z26 := Tryz.sizeOf9
  v26 := Tryz.zeroValue9
  t27 := Tryz.underlying92
  a27 := Tryz.isAgg92
  z27 := Tryz.sizeOf92
  v27 := Tryz.zeroValue92
  t28 := Tryz.underlying93
  a28 := Tryz.isAgg93
  z28 := Tryz.sizeOf93
  v28 := Tryz.zeroValue93
  t33 := Tryz.underlying101
  a33 := Tryz.isAgg101
  z33 := Tryz.sizeOf101
  v33 := Tryz.zeroValue101 }
def Tryz.sorted46_ren : Go.Shelf.Ren := ⟨fun | 6 => 46 | 8 => 54 | 9 => 55 | 11 => 62 | 13 => 64 | 12 => 63 | 23 => 83 | 24 => 84 | 14 => 74 | 15 => 75 | 16 => 76 | 17 => 77 | 18 => 78 | 19 => 79 | 20 => 80 | 21 => 81 | 22 => 82 | 25 => 96 | 26 => 97 | 27 => 98 | 28 => 99 | 29 => 100 | 30 => 101 | 31 => 106 | n => n, fun | 26 => 9 | 28 => 93 | 24 => 81 | 0 => 0 | 3 => 3 | 37 => 108 | 48 => 53 | 50 => 128 | 4 => 4 | 40 => 119 | 39 => 118 | 45 => 124 | 5 => 5 | 9 => 9 | 51 => 135 | 55 => 139 | 57 => 145 | 58 => 146 | 33 => 101 | n => n, fun | n => n⟩
theorem Tryz.sorted46 : Go.Proofs.SlLaysZ.n6 Tryz.prog Tryz.sorted46_ren := {
  mixed := by kernel_rfl
  f6 := ⟨Tryz.f46.name, by decide, Tryz.func46.trans (congrArg some (by kernel_rfl))⟩
  f8 := ⟨Tryz.f54.name, by decide, Tryz.func54.trans (congrArg some (by kernel_rfl))⟩
  f11 := ⟨Tryz.f62.name, by decide, Tryz.func62.trans (congrArg some (by kernel_rfl))⟩
  t0 := Tryz.underlying0
  a0 := Tryz.isAgg0
  z0 := Tryz.sizeOf0
  v0 := Tryz.zeroValue0
  t24 := Tryz.underlying81
  a24 := Tryz.isAgg81
  z24 := Tryz.sizeOf81
  v24 := Tryz.zeroValue81
  t26 := Tryz.underlying9
  a26 := Tryz.isAgg9
  z26 := Tryz.sizeOf9
  v26 := Tryz.zeroValue9
  t28 := Tryz.underlying93
  a28 := Tryz.isAgg93
  z28 := Tryz.sizeOf93
  v28 := Tryz.zeroValue93
  i26 := by kernel_rfl }
def Tryz.sort55_ren : Go.Shelf.Ren := ⟨fun | 6 => 55 | 8 => 64 | 9 => 63 | 19 => 83 | 20 => 84 | 21 => 74 | 22 => 75 | 23 => 76 | 24 => 77 | 25 => 78 | 26 => 79 | 27 => 80 | 28 => 81 | 29 => 82 | 36 => 96 | 31 => 97 | 32 => 98 | 37 => 99 | 38 => 100 | 39 => 101 | 41 => 106 | n => n, fun | 27 => 81 | 29 => 9 | 3 => 3 | 32 => 108 | 26 => 81 | 0 => 0 | 44 => 53 | 46 => 128 | 4 => 4 | 36 => 119 | 35 => 118 | 41 => 124 | 5 => 5 | 9 => 9 | 53 => 135 | 57 => 139 | 63 => 145 | 64 => 146 | n => n, fun | n => n⟩
theorem Tryz.sort55 : Go.Proofs.SlLaysM.n6 Tryz.prog Tryz.sort55_ren := {
  mixed := by kernel_rfl
  f6 := ⟨Tryz.f55.name, by decide, Tryz.func55.trans (congrArg some (by kernel_rfl))⟩
  f8 := Tryz.func64.trans (congrArg some (by kernel_rfl))
  f9 := ⟨Tryz.f63.name, by decide, Tryz.func63.trans (congrArg some (by kernel_rfl))⟩
  f19 := Tryz.func83.trans (congrArg some (by kernel_rfl))
  f20 := Tryz.func84.trans (congrArg some (by kernel_rfl))
  f21 := ⟨Tryz.f74.name, by decide, Tryz.func74.trans (congrArg some (by kernel_rfl))⟩
  f22 := ⟨Tryz.f75.name, by decide, Tryz.func75.trans (congrArg some (by kernel_rfl))⟩
  f23 := ⟨Tryz.f76.name, by decide, Tryz.func76.trans (congrArg some (by kernel_rfl))⟩
  f24 := ⟨Tryz.f77.name, by decide, Tryz.func77.trans (congrArg some (by kernel_rfl))⟩
  f25 := ⟨Tryz.f78.name, by decide, Tryz.func78.trans (congrArg some (by kernel_rfl))⟩
  f26 := ⟨Tryz.f79.name, by decide, Tryz.func79.trans (congrArg some (by kernel_rfl))⟩
  f27 := ⟨Tryz.f80.name, by decide, Tryz.func80.trans (congrArg some (by kernel_rfl))⟩
  f28 := ⟨Tryz.f81.name, by decide, Tryz.func81.trans (congrArg some (by kernel_rfl))⟩
  f29 := ⟨Tryz.f82.name, by decide, Tryz.func82.trans (congrArg some (by kernel_rfl))⟩
  f31 := Tryz.func97.trans (congrArg some (by kernel_rfl))
  f32 := Tryz.func98.trans (congrArg some (by kernel_rfl))
  f36 := ⟨Tryz.f96.name, by decide, Tryz.func96.trans (congrArg some (by kernel_rfl))⟩
  f37 := ⟨Tryz.f99.name, by decide, Tryz.func99.trans (congrArg some (by kernel_rfl))⟩
  f38 := ⟨Tryz.f100.name, by decide, Tryz.func100.trans (congrArg some (by kernel_rfl))⟩
  f39 := ⟨Tryz.f101.name, by decide, Tryz.func101.trans (congrArg some (by kernel_rfl))⟩
  f41 := ⟨Tryz.f106.name, by decide, Tryz.func106.trans (congrArg some (by kernel_rfl))⟩
  t0 := Tryz.underlying0
  a0 := Tryz.isAgg0
  z0 := Tryz.sizeOf0
  v0 := Tryz.zeroValue0
  t3 := Tryz.underlying3
  a3 := Tryz.isAgg3
  z3 := Tryz.sizeOf3
  v3 := Tryz.zeroValue3
  t4 := Tryz.underlying4
  a4 := Tryz.isAgg4
  z4 := Tryz.sizeOf4
  v4 := Tryz.zeroValue4
  t5 := Tryz.underlying5
  a5 := Tryz.isAgg5
  z5 := Tryz.sizeOf5
  v5 := Tryz.zeroValue5
  t9 := Tryz.underlying9
  a9 := Tryz.isAgg9
  z9 := Tryz.sizeOf9
  v9 := Tryz.zeroValue9
  t26 := Tryz.underlying81
  a26 := Tryz.isAgg81
  z26 := Tryz.sizeOf81
  v26 := Tryz.zeroValue81
  t27 := Tryz.underlying81
  a27 := Tryz.isAgg81
  z27 := Tryz.sizeOf81
  v27 := Tryz.zeroValue81
  t29 := Tryz.underlying9
  a29 := Tryz.isAgg9
  z29 := Tryz.sizeOf9
  v29 := Tryz.zeroValue9
  t32 := Tryz.underlying108
  a32 := Tryz.isAgg108
  z32 := Tryz.sizeOf108
  v32 := Tryz.zeroValue108
  t35 := Tryz.underlying118
  a35 := Tryz.isAgg118
  z35 := Tryz.sizeOf118
  v35 := Tryz.zeroValue118
  t36 := Tryz.underlying119
  a36 := Tryz.isAgg119
  z36 := Tryz.sizeOf119
  v36 := Tryz.zeroValue119
  t41 := Tryz.underlying124
  a41 := Tryz.isAgg124
  z41 := Tryz.sizeOf124
  v41 := Tryz.zeroValue124
  t44 := Tryz.underlying53
  a44 := Tryz.isAgg53
  z44 := Tryz.sizeOf53
  v44 := Tryz.zeroValue53
  t46 := Tryz.underlying128
  a46 := Tryz.isAgg128
  z46 := Tryz.sizeOf128
  v46 := Tryz.zeroValue128
  t53 := Tryz.underlying135
  a53 := Tryz.isAgg135
  z53 := Tryz.sizeOf135
  v53 := Tryz.zeroValue135
  t57 := Tryz.underlying139
  a57 := Tryz.isAgg139
  z57 := Tryz.sizeOf139
  v57 := Tryz.zeroValue139
  t63 := Tryz.underlying145
  a63 := Tryz.isAgg145
  z63 := Tryz.sizeOf145
  v63 := Tryz.zeroValue145
  t64 := Tryz.underlying146
  a64 := Tryz.isAgg146
  z64 := Tryz.sizeOf146
  v64 := Tryz.zeroValue146 }
open Go.RowKit Go.Maps Go.Sort Go.Shelf in
theorem Tryz.sorts46 (m : Nat) : AnyZ.SortsIn Tryz.prog Tryz.sorted46_ren Fence.wide m :=
  ⟨fun blk off cap ss W hH hblk hsz => callsIn_wide.2 (AnyM.slices_Sort_string Tryz.sort55 blk off cap ss W hH hblk hsz),
   fun p cap W => callsIn_wide.2 (AnyM.slices_Sort_string_none Tryz.sort55 p cap W)⟩

open Go.RowKit Go.Maps Go.Sort Go.Shelf in
theorem Tryz.maps_Keys_47 (mb : Option Nat) (W : World) : CallsIn Fence.wide 5 Tryz.prog 47 #[.map mb] W fun e w' => e = .returned (.func (.func 56) #[] #[.pointer (some ⟨W.heap.size, 0, none⟩)]) ∧ w' = W.alloc (.cells #[.map mb] 62) :=
  AnyZ.keys_in Tryz.keys47 Fence.wide 5 trivial rfl mb W

open Go.RowKit Go.Maps Go.Sort Go.Shelf in
theorem Tryz.slices_Sorted_keys_46_47 {H : Type} (b nn : Nat) (D0 : DataW H) (R : Value → Option (DataW H × List MemPlace)) (w : World) (hown : w.ownsMap Tryz.prog 9 R b nn D0) (hmax : Maps.size D0 ≤ maxLen) (hbytes : Maps.size D0 * 16 ≤ 140737488355328) :
    CallsIn Fence.wide 5 Tryz.prog 46 #[.func (.func 56) #[] #[.pointer (some ⟨w.heap.size, 0, none⟩)]] (w.alloc (.cells #[.map (some b)] 62)) fun e w' => ∃ (v : Value) (ss : List (List UInt8)), e = .returned v ∧ ss.Perm (strKeys D0) ∧
      w'.ownsRow (w.alloc (.cells #[.map (some b)] 62)).heap.size 9 1 v ss.length ((ss.mergeSort (fun x y => decide (x ≤ y))).map encStr) ∧ (v = .slice none 0 0 ↔ ss = []) ∧ Below (w.alloc (.cells #[.map (some b)] 62)).heap.size (w.alloc (.cells #[.map (some b)] 62)) w' := by
  have hbl := hown.lt
  have hseq : SeqGives Fence.wide 2 Tryz.prog 56 #[.pointer (some ⟨w.heap.size, 0, none⟩)] encStr (fun ss => ss.Perm (strKeys D0)) (Maps.size D0) (w.alloc (.cells #[.map (some b)] 62)) :=
    AnyZ.keys_gives (ρ := Tryz.keys47_ren) { Tryz.keys47 with } Fence.wide _ trivial rfl (by omega) w.heap.size b nn D0 _ (by simp) (by simp) (by
      obtain ⟨es, clock, hb, Ft, hs, hD⟩ := hown
      exact ⟨es, clock, (Below.heap_alloc _ _ b hbl).trans hb, Ft, hs, hD⟩)
  exact AnyZ.sorted_in Tryz.sorted46 Fence.wide 5 trivial trivial trivial trivial rfl (by omega) (Tryz.sorts46 _) (enters_of Tryz.func55 (by kernel_rfl) rfl) 56 #[.pointer (some ⟨w.heap.size, 0, none⟩)] trivial (enters_of Tryz.func56 (by kernel_rfl) rfl) _ _ hmax hbytes _ hseq

open Go.RowKit Go.Maps Go.Sort Go.Shelf in
theorem Tryz.slices_Sorted_keys_nil_46_47 (w : World) :
    CallsIn Fence.wide 5 Tryz.prog 46 #[.func (.func 56) #[] #[.pointer (some ⟨w.heap.size, 0, none⟩)]] (w.alloc (.cells #[.map none] 62)) fun e w' => ∃ (v : Value) (ss : List (List UInt8)), e = .returned v ∧ ss = [] ∧
      w'.ownsRow (w.alloc (.cells #[.map none] 62)).heap.size 9 1 v ss.length ((ss.mergeSort (fun x y => decide (x ≤ y))).map encStr) ∧ (v = .slice none 0 0 ↔ ss = []) ∧ Below (w.alloc (.cells #[.map none] 62)).heap.size (w.alloc (.cells #[.map none] 62)) w' := by
  have hseq : SeqGives Fence.wide 2 Tryz.prog 56 #[.pointer (some ⟨w.heap.size, 0, none⟩)] encStr (fun ss : List (List UInt8) => ss = []) 0 (w.alloc (.cells #[.map none] 62)) :=
    AnyZ.keys_gives_nil (ρ := Tryz.keys47_ren) { Tryz.keys47 with } Fence.wide _ trivial rfl w.heap.size _ (by simp) (by simp)
  exact AnyZ.sorted_in Tryz.sorted46 Fence.wide 5 trivial trivial trivial trivial rfl (by omega) (Tryz.sorts46 _) (enters_of Tryz.func55 (by kernel_rfl) rfl) 56 #[.pointer (some ⟨w.heap.size, 0, none⟩)] trivial (enters_of Tryz.func56 (by kernel_rfl) rfl) _ 0 (Nat.zero_le _) (by omega) _ hseq
end Go.Proofs

/- the names of all files, in order. -/
namespace Go.Proofs.YtinfjnnffmlpmaaGreatDoor
open Go E
set_option maxRecDepth 100000
set_option linter.unusedVariables false
set_option linter.unusedSimpArgs false

/-- A text's row. -/
def sR (s : ByteArray) : List V := [.val (.string s)]
/-- In order. -/
def leN (x y : ByteArray) : Bool := decide (x.data.toList ≤ y.data.toList)
def sortF (fs : Fs) : Fs := fs.mergeSort fun p q => leN p.1 q.1
def namesF (fs : Fs) : List ByteArray := (sortF fs).map (·.1)

theorem namesF_eq (fs : Fs) : namesF fs = (fs.map (·.1)).mergeSort leN := List.map_mergeSort fun _ _ _ _ => rfl

theorem leL_trans (a b c : List UInt8) (h : decide (a ≤ b) = true) (k : decide (b ≤ c) = true) : decide (a ≤ c) = true := by
  simp only [decide_eq_true_eq] at *; exact List.le_trans h k
theorem leL_total (a b : List UInt8) : (decide (a ≤ b) || decide (b ≤ a)) = true := by
  simp only [Bool.or_eq_true, decide_eq_true_eq]; exact List.le_total a b

theorem sorted_names {fs : Fs} {ss : List (List UInt8)} (h : ss.Perm (fs.map fun p => p.1.data.toList)) : (ss.mergeSort fun x y => decide (x ≤ y)) = (namesF fs).map (fun s => s.data.toList) := by
  rw [namesF_eq, List.map_mergeSort (r := leN) (f := fun s : ByteArray => s.data.toList) (s := fun x y => decide (x ≤ y)) (fun _ _ _ _ => rfl)]
  refine List.Perm.eq_of_pairwise (le := fun x y => decide (x ≤ y) = true) (fun a b _ _ h k => ?_) (List.pairwise_mergeSort leL_trans leL_total _) (List.pairwise_mergeSort leL_trans leL_total _) ?_
  · simp only [decide_eq_true_eq] at h k; exact List.le_antisymm h k
  · rw [List.map_map]
    exact (List.mergeSort_perm ..).trans (h.trans (List.mergeSort_perm ..).symm)

/-- bytes.Clone, where there are none. -/
theorem cClone0 : Contract Tryz.prog 39 [.own 0] [.arr 1 []] (.sl 1 []) [some (.arr 1 [])] := by
  refine ⟨⟨_, Tryz.func39, ne_of_beq_false (by kernel_rfl), by kernel_rfl⟩, fun w G X τ vals hm hX ha => ?_⟩
  have hv : vals = #[(τ 0).hdr] := by
    obtain ⟨l⟩ := vals
    match l, ha with
    | [p], ha =>
      simp only [repL, V.rep, and_true] at ha
      rw [ha]
  subst hv
  have hok := hm.ok 0 _ rfl
  simp only [Obj.ok, rowsOk, List.length_nil] at hok
  obtain ⟨k1, _, k2⟩ := hok
  rw [Gh.hdr, k1]
  have hcap : (τ 0).adr = none → (τ 0).cap = 0 := by
    intro h
    rcases k2 with ⟨_, _, e⟩ | ⟨b, _, _, _, _, e, _⟩
    · exact e
    · rw [h] at e; cases e
  have hst : objsAt' [some (.arr 1 [])] = objsAt [.arr 1 []] := by
    funext i
    match i with
    | 0 => rfl
    | i + 1 => rfl
  have heq : ∀ (w : World) (a : Option Addr) (c : Nat), (binOp .eql 23 (.slice a 0 c) (.slice none 0 0)).run Tryz.prog w = .ok (.bool a.isNone) w := fun w a c => Go.Lib.run_eql_slice_nil w 23 5 a 0 c 0 0 (by kernel_rfl)
  rw [hst]
  cases hadr : (τ 0).adr with
  | none =>
    rw [hcap hadr]
    go_enter Tryz.func39, Tryz.ntmps39
    go_wp2
    go_ret
    exact ⟨_, rfl, G, Ext.refl _ _ _ _, τ, rfl, by simp only [V.rep, V.repI]; exact ⟨none, 0, rfl, Nat.le_refl _, .inl trivial⟩, hm⟩
  | some a =>
    go_enter Tryz.func39, Tryz.ntmps39
    go_wp2
    go_ret
    obtain ⟨m1, e1⟩ := Mem.grown hm (Nat.le_refl _) ((RowKit.Below.refl _ w).alloc (Nat.le_refl _) _) (fun _ => False) (fun _ h => h.elim)
    exact ⟨_, rfl, _, e1, τ, rfl, by simp only [V.rep, V.repI]; exact ⟨_, 0, rfl, Nat.le_refl _, .inl trivial⟩, m1⟩

/-- How a file's variable reads: not at all. -/
def noR (_ : Value) : Option (DataW Unit × List MemPlace) := some (.nil, [])

theorem rg_string {m : Array MapEntry} (hk : ∀ e ∈ m.toList, ∃ s, e.key = .string s ∧ s.size ≤ maxLen) :
    (∀ x ∈ m.toList, ∃ y, WideElems.rd Tryz.prog 9 noR x = some y) ∧ ∀ (es : List ByteArray), m.toList.map (·.key) = es.map Value.string → (m.toList.map (WideElems.rg Tryz.prog 9 noR)).map (fun p => strOf p.1) = es.map fun s => s.data.toList := by
  have hu : Tryz.prog.underlying 9 = some .string := by kernel_rfl
  have one : ∀ e ∈ m.toList, ∀ s, e.key = .string s → WideElems.rd Tryz.prog 9 noR e = some (.string s.data.toList, .nil) := by
    intro e he s hs
    obtain ⟨s', h1, h2⟩ := hk e he
    rw [hs] at h1; cases h1
    unfold WideElems.rd
    rw [hs, WideMaps.keyOf_string_mk hu h2]
    rfl
  refine ⟨fun x hx => ?_, ?_⟩
  · obtain ⟨s, h1, _⟩ := hk x hx
    exact ⟨_, one x hx s h1⟩
  · revert one
    generalize m.toList = l
    intro one
    induction l with
    | nil =>
      intro es h
      cases es with
      | nil => rfl
      | cons s es => simp at h
    | cons e l ih =>
      intro es h
      cases es with
      | nil => simp at h
      | cons s es =>
        simp only [List.map_cons, List.cons.injEq] at h ⊢
        refine ⟨?_, ih (fun x hx => one x (by simp [hx])) es h.2⟩
        unfold WideElems.rg
        rw [one e (by simp) s h.1]
        rfl

theorem strKeys_perm : ∀ (l : List (Lit × DataW Unit)), (strKeys (.map (l.foldr DataW.insert []))).Perm (l.map fun p => strOf p.1) := by
  intro l
  unfold strKeys
  refine List.Perm.map _ ?_
  induction l with
  | nil => exact List.Perm.refl _
  | cons x l ih => exact (WideShapes.insert_perm x _).trans (ih.cons x)

theorem repRows_names {w : World} {G : Nat → Prop} {b : Nat} {cur : Array Value} {t : TypeId} {fz : Nat × Nat} (hb : w.heap[b]? = some (.cells cur t fz)) : ∀ (ns : List ByteArray) (o : Nat), (∀ i s, ns[i]? = some s → cur[o + i]? = some (.string s)) → repRows w G 1 b o (ns.map sR)
  | [], _, _ => by simp only [List.map_nil, repRows]
  | s :: ns, o, h => by
    simp only [List.map_cons, repRows, sR, List.length_singleton, repCells, V.repI, and_true, true_and]
    refine ⟨⟨.string s, by rw [cell_of_heap hb]; simpa using h 0 s (by simp), rfl, rfl⟩, repRows_names hb ns (o + 1) (fun i q hq => ?_)⟩
    have := h (i + 1) q (by simpa using hq)
    rwa [show o + 1 + i = o + (i + 1) by omega]

/-- The names of all files, in order. -/
theorem cNames (d : Dv) (hd : d.nl = true → d.fs = []) (hl : d.fs.length ≤ 1000000000) (hk : ∀ p ∈ d.fs, p.1.size ≤ maxLen) :
    Contract Tryz.prog 38 [.ptr 0 0 0 0] [d.box 1, d.map] (.sl 1 ((namesF d.fs).map sR)) [some (d.box 1), some d.map] := by
  refine ⟨⟨_, Tryz.func38, ne_of_beq_false (by kernel_rfl), by kernel_rfl⟩, fun w G X τ vals hm hX ha => ?_⟩
  obtain ⟨b, x4, t, fz, k1, k2, k3, k4, k5⟩ := dv_at hm
  have hv : vals = #[.pointer (some ⟨b, 0, none⟩)] := by
    obtain ⟨l⟩ := vals
    match l, ha with
    | [p], ha =>
      simp only [repL, V.rep, and_true] at ha
      obtain ⟨b', e1, rfl⟩ := ha
      rw [k1] at e1; cases e1
      rfl
  subst hv
  subst k3
  have hst : objsAt' [some (d.box 1), some d.map] = objsAt [d.box 1, d.map] := by
    funext i
    match i with
    | 0 => rfl
    | 1 => rfl
    | i + 2 => rfl
  rw [hst]
  have h5 : w.cell? ⟨b, 5, none⟩ = some (.map (τ 1).blk) := by rw [cell_of_heap k2]; rfl
  -- what the walk gives
  suffices main : Calls Tryz.prog 38 #[.pointer (some ⟨b, 0, none⟩)] w fun e w' => ∃ (v : Value) (ss : List (List UInt8)), e = .returned v ∧ ss.Perm (d.fs.map fun p => p.1.data.toList) ∧
      w'.ownsRow w.heap.size 9 1 v ss.length ((ss.mergeSort (fun x y => decide (x ≤ y))).map encStr) ∧ RowKit.Below w.heap.size w w' by
    refine main.mono ?_
    rintro e w' ⟨v, ss, rfl, h1, h2, h3⟩
    obtain ⟨q1, q2⟩ := h2
    have hlen : ss.length = (namesF d.fs).length := by rw [h1.length_eq, namesF_eq]; simp
    rcases q2 with ⟨rfl, q3⟩ | ⟨g, cap, cur, rfl, q3, q4, q5, q6, q7, q8⟩
    · obtain ⟨m1, e1⟩ := Mem.grown hm (Nat.le_refl _) h3 (fun _ => False) (fun _ h => h.elim)
      have hn : namesF d.fs = [] := List.eq_nil_of_length_eq_zero (by omega)
      refine ⟨_, _, τ, rfl, e1, fun _ _ => rfl, ?_, m1⟩
      rw [hn]
      simp only [List.map_nil, V.rep, V.repI]
      exact ⟨none, 0, rfl, Nat.le_refl _, .inl trivial⟩
    · obtain ⟨m1, e1⟩ := Mem.grown hm (Nat.le_refl _) h3 (fun k => k = g) (fun k h => by subst h; exact ⟨q3, lt_of_get q4⟩)
      refine ⟨_, _, τ, rfl, e1, fun _ _ => rfl, ?_, m1⟩
      simp only [V.rep, V.repI]
      refine ⟨_, cap, by rw [hlen]; simp, by rw [List.length_map, ← hlen]; exact q5, .inr ⟨g, 0, rfl, .inr rfl, repRows_names q4 _ 0 (fun i s hi => ?_)⟩⟩
      have hil : i < ss.length := by rw [hlen]; exact (List.getElem?_eq_some_iff.1 hi).1
      have := congrArg (fun l => l[i]?) q8
      simp only [Nat.mul_one, List.getElem?_take, if_pos hil] at this
      rw [Nat.zero_add, ← Array.getElem?_toList, this, sorted_names h1, List.map_map, List.getElem?_map, hi]
      rfl
  cases hn : (τ 1).blk with
  | none =>
    rw [hn] at h5
    have hok := hm.ok 1 _ rfl
    simp only [Dv.map, Obj.ok] at hok
    have hfs : d.fs = [] := by
      rcases hok with ⟨h, _⟩ | ⟨_, b', _, _, h, _⟩
      · exact hd h
      · rw [hn] at h; cases h
    refine (callsIn_wide (n := 6)).1 ?_
    have hfK : Fence.wide.fn 47 := trivial
    have hfS : Fence.wide.fn 46 := trivial
    refine callsIn_of_wp Tryz.func38 rfl trivial ?_ rfl
    simp only [Tryz.ntmps38, List.size_toArray, List.length_cons, List.length_nil, Nat.reduceAdd, Nat.reduceSub, Array.replicate_succ, Array.replicate_zero, List.push_toArray, List.append_toArray, List.nil_append, List.cons_append]
    gi_wp2_with (first
      | (gi_at_call 47; refine (Tryz.maps_Keys_47 _ _).mono ?_; rintro e w' ⟨rfl, rfl⟩)
      | (gi_at_call 46; refine (Tryz.slices_Sorted_keys_nil_46_47 w).mono ?_; rintro e w' ⟨v, ss, rfl, hS, hrow, hnil, hb⟩))
    go_ret
    exact ⟨v, ss, rfl, by rw [hS, hfs]; exact List.Perm.refl _, ownsRow_base_a hrow (by rw [alloc_size]; omega), ((RowKit.Below.refl _ w).alloc (Nat.le_refl _) _).trans (hb.mono (by rw [alloc_size]; omega))⟩
  | some mb =>
    rw [hn] at h5
    have hok := hm.ok 1 _ rfl
    simp only [Dv.map, Obj.ok] at hok
    obtain ⟨m, clock, e1, e2, e3⟩ : ∃ m clock, w.heap[mb]? = some (.map m clock) ∧ MapKept.Stamped m clock ∧ m.toList.map (·.key) = (d.fs.map (·.1)).map Value.string := by
      rcases hok with ⟨_, h⟩ | ⟨hnl, b', m, clock, h1, h2, h3, h4⟩
      · rw [hn] at h; cases h
      · rw [hn] at h1; cases h1
        refine ⟨m, clock, h2, h4, ?_⟩
        obtain ⟨σ, hσ⟩ := hm.sub
        obtain ⟨hin, _⟩ := hσ.inner 1 _ rfl rfl
        simp only [Dv.map, Obj.inner] at hin
        rcases hin.2 with ⟨h, _⟩ | ⟨_, b', m', clock', g1, g2, g3, _⟩
        · rw [hnl] at h; cases h
        · rw [hn] at g1; cases g1
          rw [h2] at g2; cases g2
          rw [g3]
          unfold mE
          rw [List.map_map, List.map_map]
          rfl
    have hkeys : ∀ e ∈ m.toList, ∃ s, e.key = .string s ∧ s.size ≤ maxLen := by
      intro e he
      have hmem : e.key ∈ m.toList.map (·.key) := List.mem_map_of_mem he
      rw [e3, List.map_map] at hmem
      obtain ⟨p, hp, hpe⟩ := List.mem_map.1 hmem
      exact ⟨p.1, hpe.symm, hk p hp⟩
    obtain ⟨r1, r2⟩ := rg_string hkeys
    have r2 := r2 _ e3
    have hsz : m.size = d.fs.length := by
      have := congrArg List.length e3
      simpa using this
    have hDl : ((m.toList.map (WideElems.rg Tryz.prog 9 noR)).foldr DataW.insert []).length = d.fs.length := by
      rw [DataW.length_sorted]; simp [hsz]
    have hown : w.ownsMap Tryz.prog 9 noR mb m.size (.map ((m.toList.map (WideElems.rg Tryz.prog 9 noR)).foldr DataW.insert [])) :=
      ⟨m, clock, e1, ⟨by rw [hsz]; exact Nat.le_trans hl (by decide), e2, r1⟩, Nat.le_refl _, rfl⟩
    refine (callsIn_wide (n := 6)).1 ?_
    have hfK : Fence.wide.fn 47 := trivial
    have hfS : Fence.wide.fn 46 := trivial
    refine callsIn_of_wp Tryz.func38 rfl trivial ?_ rfl
    simp only [Tryz.ntmps38, List.size_toArray, List.length_cons, List.length_nil, Nat.reduceAdd, Nat.reduceSub, Array.replicate_succ, Array.replicate_zero, List.push_toArray, List.append_toArray, List.nil_append, List.cons_append]
    gi_wp2_with (first
      | (gi_at_call 47; refine (Tryz.maps_Keys_47 _ _).mono ?_; rintro e w' ⟨rfl, rfl⟩)
      | (gi_at_call 46; refine (Tryz.slices_Sorted_keys_46_47 mb _ _ noR w hown (by simp only [Maps.size]; rw [hDl]; exact Nat.le_trans hl (by decide)) (by simp only [Maps.size]; rw [hDl]; omega)).mono ?_; rintro e w' ⟨v, ss, rfl, hS, hrow, hnil, hb⟩))
    go_ret
    refine ⟨v, ss, rfl, hS.trans ((strKeys_perm _).trans ?_), ownsRow_base_a hrow (by rw [alloc_size]; omega), ((RowKit.Below.refl _ w).alloc (Nat.le_refl _) _).trans (hb.mono (by rw [alloc_size]; omega))⟩
    rw [r2, List.map_map]
    exact List.Perm.refl _
end Go.Proofs.YtinfjnnffmlpmaaGreatDoor

/- a device: Sync, Read. -/
namespace Go.Proofs.YtinfjnnffmlpmaaGreatDoor
open E
set_option maxRecDepth 100000
set_option linter.unusedVariables false
set_option linter.unusedSimpArgs false

theorem set_back {α : Type} {l : List α} {i : Nat} {x : α} (h : l[i]? = some x) : l.set i x = l := by
  apply List.ext_getElem?
  intro j
  rw [List.getElem?_set]
  by_cases hj : i = j
  · subst hj; rw [if_pos rfl, if_pos (List.getElem?_eq_some_iff.1 h).1, h]
  · rw [if_neg hj]
theorem mE_sync {fs : Fs} {i : Nat} {s : ByteArray} {c : Inn} (bs : List UInt8) : (((mE fs).set i (s, c)).set i (s, Inn.box 1 (bs.map bR) [I (Int.ofNat (bs.map bR).length)])) = mE (fs.set i (s, ⟨bs, Int.ofNat bs.length⟩)) := by
  rw [List.length_map]; exact mE_set _ _
theorem mE_setback {fs : Fs} {i : Nat} {s : ByteArray} {f : Fi} {c : Inn} (h : fs[i]? = some (s, f)) : (((mE fs).set i (s, c)).set i (s, Inn.box 1 (f.bs.map bR) [I f.sure])) = mE fs := by
  rw [mE_set]; unfold mE; rw [List.map_set]; exact set_back (by rw [List.getElem?_map, h]; rfl)
theorem cCloneA_0 (b : UInt8) (l : List UInt8) (hl : l.length + 1 ≤ 1000000000) : Contract Tryz.prog 39 [.own 0] [.arr 1 ((b :: l).map bR)] (V.sl (1 : Nat) (bR b :: List.map bR l)) ([some (Obj.arr (1 : Nat) (bR b :: List.map bR l))]) :=
  vcP hmix [.reg 3 [(2, [.beO ((b :: l).map bR)], none), (3, [.idx 1], none)]] [] [
      bR b :: List.map bR l ≠ [],
      ((0 : Nat) + List.length (bR b :: List.map bR l)) * (1 : Nat) ≤ (140737488355328 : Nat),
      bR b :: List.map bR l = bR b :: List.map bR l] (by kernel_rfl)
    (by
      simp only [allP]
      and_intros <;> first
        | exact List.cons_ne_nil _ _
        | (simp; done)
        | (simp; omega))

theorem cCloneA (b : UInt8) (l : List UInt8) (hl : l.length + 1 ≤ 1000000000) : Contract Tryz.prog 39 [.own 0] [.arr 1 ((b :: l).map bR)] (.sl 1 ((b :: l).map bR)) [some (.arr 1 ((b :: l).map bR))] := by
  exact Contract.cast (by
    first
      | rfl) (by
    first
      | rfl) (cCloneA_0 b l hl )

/-- bytes.Clone. -/
theorem cClone (l : List UInt8) (hl : l.length ≤ 1000000000) : Contract Tryz.prog 39 [.own 0] [.arr 1 (l.map bR)] (.sl 1 (l.map bR)) [some (.arr 1 (l.map bR))] := by
  cases l with
  | nil => exact cClone0
  | cons b l => exact cCloneA b l (by simpa using hl)
theorem mE_undef {fs : Fs} {i : Nat} {s : ByteArray} {c : Inn} : (((mE fs).set i (s, c)).set i (s, Inn.hole .undef)) = (mE fs).set i (s, .hole .undef) := List.set_set ..
theorem cSyncA_0 (d : Dv) (s : ByteArray) (i : Nat) (f : Fi) (hf : d.fuse ≠ 0) (hu : d.fuse ≤ 9223372036854775807) (hi : fat d.fs s = some i) (ha : d.fs[i]? = some (s, f)) : Contract Tryz.prog 32 [.ptr 0 0 0 0, .val (.string s)] [d.box 1, d.map] (I (0 : Int)) ([some (Obj.box [I (Dv.room d), I (Dv.used d), V.val (Value.int IntKind.u32 (bif Dv.nl d then (0 : Int) else (1 : Int))), V.val (Value.int IntKind.i32 (0 : Int)), V.val (Value.int IntKind.u32 (0 : Int)), V.mref (1 : Nat), I (bif decide (Dv.fuse d > (0 : Int)) then Dv.fuse d + (-1 : Int) else Dv.fuse d)]), some (Obj.nest (Nest.mp (Dv.nl d) (mE (List.set (Dv.fs d) i (s, { bs := Fi.bs f, sure := Int.ofNat (List.length (Fi.bs f)) })))) [])]) :=
  vcP hmix [.reg 1 [(1, [.call [0, 1] [] (I 0) [some (d.box 1), some d.map]], none)], .reg 4 [(5, [.idx i, .inn (.box 1 (f.bs.map bR) [I f.sure])], none)], .reg 7 [(8, [.shutM 1 i s 806000 (mE (d.fs.set i (s, ⟨f.bs, f.bs.length⟩)))], none)], .reg 8 [(1, [.call [0, 1] [] (I 0) [some (({ d with fs := d.fs.set i (s, ⟨f.bs, f.bs.length⟩) } : Dv).went.box 1), some ({ d with fs := d.fs.set i (s, ⟨f.bs, f.bs.length⟩) } : Dv).went.map]], none)]] [] [
      Contract Tryz.prog (22 : Nat) [V.ptr (0 : Nat) (0 : Nat) (0 : Nat) (0 : Nat)] [Obj.box [I (Dv.room d), I (Dv.used d), V.val (Value.int IntKind.u32 (bif Dv.nl d then (0 : Int) else (1 : Int))), V.val (Value.int IntKind.i32 (0 : Int)), V.val (Value.int IntKind.u32 (0 : Int)), V.mref (1 : Nat), I (Dv.fuse d)], Obj.nest (Nest.mp (Dv.nl d) (mE (Dv.fs d))) []] (I (0 : Int)) [some (Obj.box [I (Dv.room d), I (Dv.used d), V.val (Value.int IntKind.u32 (bif Dv.nl d then (0 : Int) else (1 : Int))), V.val (Value.int IntKind.i32 (0 : Int)), V.val (Value.int IntKind.u32 (0 : Int)), V.mref (1 : Nat), I (Dv.fuse d)]), some (Obj.nest (Nest.mp (Dv.nl d) (mE (Dv.fs d))) [])],
      fidx (mE (Dv.fs d)) s = some i,
      (mE (Dv.fs d))[i]? = some (s, Inn.box (1 : Nat) (List.map bR (Fi.bs f)) [I (Fi.sure f)]),
      (List.set (mE (Dv.fs d)) i (s, Inn.hole (V.ptr (806000 : Nat) (0 : Nat) (0 : Nat) (0 : Nat))))[i]? = some (s, Inn.hole (V.ptr (806000 : Nat) (0 : Nat) (0 : Nat) (0 : Nat))),
      List.set (List.set (mE (Dv.fs d)) i (s, Inn.hole (V.ptr (806000 : Nat) (0 : Nat) (0 : Nat) (0 : Nat)))) i (s, Inn.box (1 : Nat) (List.map bR (Fi.bs f)) [I (Int.ofNat (List.length (List.map bR (Fi.bs f))))]) = mE (List.set (Dv.fs d) i (s, { bs := Fi.bs f, sure := Int.ofNat (List.length (Fi.bs f)) })),
      ∀ (p0 : ByteArray × Inn), List.Mem p0 (mE (List.set (Dv.fs d) i (s, { bs := Fi.bs f, sure := Int.ofNat (List.length (Fi.bs f)) }))) → Inn.ids (Prod.snd p0) = [],
      Contract Tryz.prog (27 : Nat) [V.ptr (0 : Nat) (0 : Nat) (0 : Nat) (0 : Nat)] [Obj.box [I (Dv.room d), I (Dv.used d), V.val (Value.int IntKind.u32 (bif Dv.nl d then (0 : Int) else (1 : Int))), V.val (Value.int IntKind.i32 (0 : Int)), V.val (Value.int IntKind.u32 (0 : Int)), V.mref (1 : Nat), I (Dv.fuse d)], Obj.nest (Nest.mp (Dv.nl d) (mE (List.set (Dv.fs d) i (s, { bs := Fi.bs f, sure := Int.ofNat (List.length (Fi.bs f)) })))) []] (I (0 : Int)) [some (Obj.box [I (Dv.room d), I (Dv.used d), V.val (Value.int IntKind.u32 (bif Dv.nl d then (0 : Int) else (1 : Int))), V.val (Value.int IntKind.i32 (0 : Int)), V.val (Value.int IntKind.u32 (0 : Int)), V.mref (1 : Nat), I (bif decide (Dv.fuse d > (0 : Int)) then Dv.fuse d + (-1 : Int) else Dv.fuse d)]), some (Obj.nest (Nest.mp (Dv.nl d) (mE (List.set (Dv.fs d) i (s, { bs := Fi.bs f, sure := Int.ofNat (List.length (Fi.bs f)) })))) [])]] (by kernel_rfl)
    (by
      simp only [allP]
      and_intros <;> first
        | exact cDone_ ({ d with fs := d.fs.set i (s, ⟨f.bs, f.bs.length⟩) } : Dv) hu
        | exact mE_sync _
        | exact cMay0 d hf
        | exact mE_ids _
        | exact mE_at ha
        | (rw [fidx_mE]; exact hi)
        | exact mE_get ha)

theorem cSyncA (d : Dv) (s : ByteArray) (i : Nat) (f : Fi) (hf : d.fuse ≠ 0) (hu : d.fuse ≤ 9223372036854775807) (hi : fat d.fs s = some i) (ha : d.fs[i]? = some (s, f)) : Contract Tryz.prog 32 [.ptr 0 0 0 0, .val (.string s)] [d.box 1, d.map] (I 0) [some (({ d with fs := d.fs.set i (s, ⟨f.bs, f.bs.length⟩) } : Dv).went.box 1), some ({ d with fs := d.fs.set i (s, ⟨f.bs, f.bs.length⟩) } : Dv).went.map] := by
  exact Contract.cast (by
    first
      | rfl) (by
    first
      | rfl) (cSyncA_0 d s i f hf hu hi ha )

theorem cSyncB_0 (d : Dv) (s : ByteArray) (hf : d.fuse ≠ 0) (hi : fat d.fs s = none) : Contract Tryz.prog 32 [.ptr 0 0 0 0, .val (.string s)] [d.box 1, d.map] (I (4 : Int)) ([some (Obj.box [I (Dv.room d), I (Dv.used d), V.val (Value.int IntKind.u32 (bif Dv.nl d then (0 : Int) else (1 : Int))), V.val (Value.int IntKind.i32 (0 : Int)), V.val (Value.int IntKind.u32 (0 : Int)), V.mref (1 : Nat), I (Dv.fuse d)]), some (Obj.nest (Nest.mp (Dv.nl d) (mE (Dv.fs d))) [])]) :=
  vcP hmix [.reg 1 [(1, [.call [0, 1] [] (I 0) [some (d.box 1), some d.map]], none)], .reg 4 [(5, [.row []], none)]] [] [
      Contract Tryz.prog (22 : Nat) [V.ptr (0 : Nat) (0 : Nat) (0 : Nat) (0 : Nat)] [Obj.box [I (Dv.room d), I (Dv.used d), V.val (Value.int IntKind.u32 (bif Dv.nl d then (0 : Int) else (1 : Int))), V.val (Value.int IntKind.i32 (0 : Int)), V.val (Value.int IntKind.u32 (0 : Int)), V.mref (1 : Nat), I (Dv.fuse d)], Obj.nest (Nest.mp (Dv.nl d) (mE (Dv.fs d))) []] (I (0 : Int)) [some (Obj.box [I (Dv.room d), I (Dv.used d), V.val (Value.int IntKind.u32 (bif Dv.nl d then (0 : Int) else (1 : Int))), V.val (Value.int IntKind.i32 (0 : Int)), V.val (Value.int IntKind.u32 (0 : Int)), V.mref (1 : Nat), I (Dv.fuse d)]), some (Obj.nest (Nest.mp (Dv.nl d) (mE (Dv.fs d))) [])],
      fidx (mE (Dv.fs d)) s = none] (by kernel_rfl)
    (by
      simp only [allP]
      and_intros <;> first
        | exact cMay0 d hf
        | (rw [fidx_mE]; exact hi))

theorem cSyncB (d : Dv) (s : ByteArray) (hf : d.fuse ≠ 0) (hi : fat d.fs s = none) : Contract Tryz.prog 32 [.ptr 0 0 0 0, .val (.string s)] [d.box 1, d.map] (I 4) [some (d.box 1), some d.map] := by
  exact Contract.cast (by
    first
      | rfl) (by
    first
      | rfl) (cSyncB_0 d s hf hi )

theorem cSyncC_0 (d : Dv) (s : ByteArray) (hf : d.fuse = 0) : Contract Tryz.prog 32 [.ptr 0 0 0 0, .val (.string s)] [d.box 1, d.map] (I (5 : Int)) ([some (Obj.box [I (Dv.room d), I (Dv.used d), V.val (Value.int IntKind.u32 (bif Dv.nl d then (0 : Int) else (1 : Int))), V.val (Value.int IntKind.i32 (0 : Int)), V.val (Value.int IntKind.u32 (0 : Int)), V.mref (1 : Nat), I (Dv.fuse d)]), some (Obj.nest (Nest.mp (Dv.nl d) (mE (Dv.fs d))) [])]) :=
  vcP hmix [.reg 1 [(1, [.call [0, 1] [] (I 5) [some (d.box 1), some d.map]], none)]] [] [
      Contract Tryz.prog (22 : Nat) [V.ptr (0 : Nat) (0 : Nat) (0 : Nat) (0 : Nat)] [Obj.box [I (Dv.room d), I (Dv.used d), V.val (Value.int IntKind.u32 (bif Dv.nl d then (0 : Int) else (1 : Int))), V.val (Value.int IntKind.i32 (0 : Int)), V.val (Value.int IntKind.u32 (0 : Int)), V.mref (1 : Nat), I (Dv.fuse d)], Obj.nest (Nest.mp (Dv.nl d) (mE (Dv.fs d))) []] (I (5 : Int)) [some (Obj.box [I (Dv.room d), I (Dv.used d), V.val (Value.int IntKind.u32 (bif Dv.nl d then (0 : Int) else (1 : Int))), V.val (Value.int IntKind.i32 (0 : Int)), V.val (Value.int IntKind.u32 (0 : Int)), V.mref (1 : Nat), I (Dv.fuse d)]), some (Obj.nest (Nest.mp (Dv.nl d) (mE (Dv.fs d))) [])]] (by kernel_rfl)
    (by
      simp only [allP]
      and_intros <;> first
        | exact cMay5 d hf)

theorem cSyncC (d : Dv) (s : ByteArray) (hf : d.fuse = 0) : Contract Tryz.prog 32 [.ptr 0 0 0 0, .val (.string s)] [d.box 1, d.map] (I 5) [some (d.box 1), some d.map] := by
  exact Contract.cast (by
    first
      | rfl) (by
    first
      | rfl) (cSyncC_0 d s hf )

theorem cReadA_0 (d : Dv) (s : ByteArray) (i : Nat) (f : Fi) (hi : fat d.fs s = some i) (ha : d.fs[i]? = some (s, f)) (hl : f.bs.length ≤ 1000000000) : Contract Tryz.prog 18 [.ptr 0 0 0 0, .val (.string s)] [d.box 1, d.map] (V.tup [V.sl (1 : Nat) (List.map bR (Fi.bs f)), Bo true]) ([some (Obj.box [I (Dv.room d), I (Dv.used d), V.val (Value.int IntKind.u32 (bif Dv.nl d then (0 : Int) else (1 : Int))), V.val (Value.int IntKind.i32 (0 : Int)), V.val (Value.int IntKind.u32 (0 : Int)), V.mref (1 : Nat), I (Dv.fuse d)]), some (Obj.nest (Nest.mp (Dv.nl d) (mE (Dv.fs d))) [])]) :=
  vcP hmix [.reg 1 [(8, [.idx i, .inn (.box 1 (f.bs.map bR) [I f.sure]), .shutM 1 i s 209000 (mE d.fs)], none)], .reg 3 [(5, [.idx i, .inn (.box 1 (f.bs.map bR) [I f.sure])], none), (9, [.call [606001] [] (.sl 1 (f.bs.map bR)) [some (.arr 1 (f.bs.map bR))]], none), (11, [.shutM 1 i s 606000 (mE d.fs)], none)]] [] [
      fidx (mE (Dv.fs d)) s = some i,
      (mE (Dv.fs d))[i]? = some (s, Inn.box (1 : Nat) (List.map bR (Fi.bs f)) [I (Fi.sure f)]),
      (List.set (mE (Dv.fs d)) i (s, Inn.hole (V.ptr (209000 : Nat) (0 : Nat) (0 : Nat) (0 : Nat))))[i]? = some (s, Inn.hole (V.ptr (209000 : Nat) (0 : Nat) (0 : Nat) (0 : Nat))),
      List.set (List.set (mE (Dv.fs d)) i (s, Inn.hole (V.ptr (209000 : Nat) (0 : Nat) (0 : Nat) (0 : Nat)))) i (s, Inn.box (1 : Nat) (List.map bR (Fi.bs f)) [I (Fi.sure f)]) = mE (Dv.fs d),
      ∀ (p0 : ByteArray × Inn), List.Mem p0 (mE (Dv.fs d)) → Inn.ids (Prod.snd p0) = [],
      fidx (mE (Dv.fs d)) s = some i,
      (mE (Dv.fs d))[i]? = some (s, Inn.box (1 : Nat) (List.map bR (Fi.bs f)) [I (Fi.sure f)]),
      Contract Tryz.prog (39 : Nat) [V.own (0 : Nat)] [Obj.arr (1 : Nat) (List.map bR (Fi.bs f))] (V.sl (1 : Nat) (List.map bR (Fi.bs f))) [some (Obj.arr (1 : Nat) (List.map bR (Fi.bs f)))],
      (List.set (mE (Dv.fs d)) i (s, Inn.hole (V.ptr (606000 : Nat) (0 : Nat) (0 : Nat) (0 : Nat))))[i]? = some (s, Inn.hole (V.ptr (606000 : Nat) (0 : Nat) (0 : Nat) (0 : Nat))),
      List.set (List.set (mE (Dv.fs d)) i (s, Inn.hole (V.ptr (606000 : Nat) (0 : Nat) (0 : Nat) (0 : Nat)))) i (s, Inn.box (1 : Nat) (List.map bR (Fi.bs f)) [I (Fi.sure f)]) = mE (Dv.fs d),
      ∀ (p0 : ByteArray × Inn), List.Mem p0 (mE (Dv.fs d)) → Inn.ids (Prod.snd p0) = []] (by kernel_rfl)
    (by
      simp only [allP]
      and_intros <;> first
        | exact cClone _ hl
        | exact mE_ids _
        | exact mE_at ha
        | (rw [fidx_mE]; exact hi)
        | exact mE_get ha
        | exact mE_setback ha)

theorem cReadA (d : Dv) (s : ByteArray) (i : Nat) (f : Fi) (hi : fat d.fs s = some i) (ha : d.fs[i]? = some (s, f)) (hl : f.bs.length ≤ 1000000000) : Contract Tryz.prog 18 [.ptr 0 0 0 0, .val (.string s)] [d.box 1, d.map] (.tup [.sl 1 (f.bs.map bR), Bo true]) [some (d.box 1), some d.map] := by
  exact Contract.cast (by
    first
      | rfl) (by
    first
      | rfl) (cReadA_0 d s i f hi ha hl )

theorem cReadB_0 (d : Dv) (s : ByteArray) (hi : fat d.fs s = none) : Contract Tryz.prog 18 [.ptr 0 0 0 0, .val (.string s)] [d.box 1, d.map] (V.tup [V.sl (1 : Nat) [], Bo false]) ([some (Obj.box [I (Dv.room d), I (Dv.used d), V.val (Value.int IntKind.u32 (bif Dv.nl d then (0 : Int) else (1 : Int))), V.val (Value.int IntKind.i32 (0 : Int)), V.val (Value.int IntKind.u32 (0 : Int)), V.mref (1 : Nat), I (Dv.fuse d)]), some (Obj.nest (Nest.mp (Dv.nl d) (mE (Dv.fs d))) [])]) :=
  vcP hmix [.reg 1 [(8, [.row []], none)]] [] [
      fidx (mE (Dv.fs d)) s = none] (by kernel_rfl)
    (by
      simp only [allP]
      and_intros <;> first
        | (rw [fidx_mE]; exact hi))

theorem cReadB (d : Dv) (s : ByteArray) (hi : fat d.fs s = none) : Contract Tryz.prog 18 [.ptr 0 0 0 0, .val (.string s)] [d.box 1, d.map] (.tup [.sl 1 [], Bo false]) [some (d.box 1), some d.map] := by
  exact Contract.cast (by
    first
      | rfl) (by
    first
      | rfl) (cReadB_0 d s hi )

end Go.Proofs.YtinfjnnffmlpmaaGreatDoor

/- a device: what drops a file. -/
namespace Go.Proofs.YtinfjnnffmlpmaaGreatDoor
open E
set_option maxRecDepth 100000
set_option linter.unusedVariables false
set_option linter.unusedSimpArgs false

theorem mE_era {fs : Fs} {i : Nat} {s : ByteArray} {c : Inn} : (((mE fs).set i (s, c)).eraseIdx i) = mE (fs.eraseIdx i) := by
  rw [← mE_erase, List.eraseIdx_set_eq]
theorem fidx_keys {es : List (ByteArray × Inn)} {fs : Fs} {s : ByteArray} (h : es.map (·.1) = fs.map (·.1)) : fidx es s = fat fs s := by
  unfold fidx fat
  have e1 : es.findIdx? (fun p => s == p.1) = (es.map (·.1)).findIdx? (fun q => s == q) := by rw [List.findIdx?_map]; rfl
  have e2 : fs.findIdx? (fun p => s == p.1) = (fs.map (·.1)).findIdx? (fun q => s == q) := by rw [List.findIdx?_map]; rfl
  rw [e1, e2, h]
theorem keys_set {fs : Fs} {i : Nat} {s : ByteArray} {f : Fi} {c : Inn} (h : fs[i]? = some (s, f)) : ((mE fs).set i (s, c)).map (·.1) = fs.map (·.1) := by
  have e : (mE fs).map (·.1) = fs.map (·.1) := by unfold mE; rw [List.map_map]; rfl
  rw [List.map_set, e]
  exact set_back (by rw [List.getElem?_map, h]; rfl)
theorem keys_set2 {es : List (ByteArray × Inn)} {i : Nat} {s : ByteArray} {c c' : Inn} (h : es[i]? = some (s, c')) : (es.set i (s, c)).map (·.1) = es.map (·.1) := by
  rw [List.map_set]
  exact set_back (by rw [List.getElem?_map, h]; rfl)
theorem fidx_keys2 {es es' : List (ByteArray × Inn)} {s : ByteArray} (h : es.map (·.1) = es'.map (·.1)) : fidx es s = fidx es' s := by
  unfold fidx
  have e1 : es.findIdx? (fun p => s == p.1) = (es.map (·.1)).findIdx? (fun q => s == q) := by rw [List.findIdx?_map]; rfl
  have e2 : es'.findIdx? (fun p => s == p.1) = (es'.map (·.1)).findIdx? (fun q => s == q) := by rw [List.findIdx?_map]; rfl
  rw [e1, e2, h]
theorem get_undef {es : List (ByteArray × Inn)} {i : Nat} {s : ByteArray} {c' c : Inn} (h : es[i]? = some (s, c')) : Option.map (fun x => x.1) (es.set i (s, c))[i]? = some s := by
  rw [List.getElem?_set, if_pos rfl, if_pos (List.getElem?_eq_some_iff.1 h).1]; rfl
theorem ids_undef {es : List (ByteArray × Inn)} {i : Nat} {s : ByteArray} {hs : List Nat} (h : ∀ p ∈ es, ∀ j ∈ p.2.ids, j ∈ hs) : ∀ p ∈ es.set i (s, .hole .undef), ∀ j ∈ p.2.ids, j ∈ hs := by
  intro p hp j hj
  rcases List.mem_or_eq_of_mem_set hp with h1 | h1
  · exact h p h1 j hj
  · subst h1; simp [Inn.ids, V.ids] at hj
theorem era_undef {es : List (ByteArray × Inn)} {i : Nat} {s : ByteArray} {c : Inn} : (es.set i (s, c)).eraseIdx i = es.eraseIdx i := List.eraseIdx_set_eq
theorem ids_none {fs : Fs} : ∀ p ∈ mE fs, ∀ j ∈ p.2.ids, j ∈ ([] : List Nat) := by
  intro p hp j hj
  rw [mE_ids fs p hp] at hj; exact hj
theorem addD {u : Int} {l : Nat} (hu : 0 ≤ u - l) (hm : u ≤ 9223372036854775807) : CellC Tryz.prog 26 .i64 u (u + -Int.ofNat l) [.int .i64 (-Int.ofNat l)] (.int .i64 (u + -Int.ofNat l)) :=
  addC (i64_small (by simp only [Int.ofNat_eq_natCast]; omega))
theorem negW {u : Int} {l : List UInt8} (hm : u ≤ 9223372036854775807) (hu : 0 ≤ u - l.length) : IntKind.i64.wrap (0 + -Int.ofNat (l.map bR).length) = -Int.ofNat l.length := by
  rw [List.length_map, i64_small (by simp only [Int.ofNat_eq_natCast]; omega)]; omega
theorem ids_hole {fs : Fs} {i k : Nat} {s : ByteArray} : ∀ p ∈ (mE fs).set i (s, .hole (.ptr k 0 0 0)), ∀ j ∈ p.2.ids, j ∈ [k] := by
  intro p hp j hj
  rcases List.mem_or_eq_of_mem_set hp with h1 | h1
  · rw [mE_ids fs p h1] at hj; simp at hj
  · subst h1; simpa [Inn.ids, V.ids] using hj
theorem cDropA_0 (d : Dv) (nl : Bool) (es : List (ByteArray × Inn)) (s : ByteArray) (j : Nat) (bs : List UInt8) (n : Int) (hj : fidx es s = some j) (hg : es[j]? = some (s, Inn.box 1 (bs.map bR) [I n])) (hu : 0 ≤ d.used - bs.length) (hm : d.used ≤ 9223372036854775807) (hids : ∀ p ∈ es, ∀ k ∈ p.2.ids, k ∈ ([] : List Nat)) : Contract Tryz.prog 45 [.ptr 0 0 0 0, .val (.string s)] [d.box 1, .nest (.mp nl es) []] (V.tup []) ([some (Obj.box [I (Dv.room d), I (Dv.used d + -Int.ofNat (List.length bs)), V.val (Value.int IntKind.u32 (bif Dv.nl d then (0 : Int) else (1 : Int))), V.val (Value.int IntKind.i32 (0 : Int)), V.val (Value.int IntKind.u32 (0 : Int)), V.mref (1 : Nat), I (Dv.fuse d)]), some (Obj.nest (Nest.mp nl (List.eraseIdx es j)) [])]) :=
  vcP hmix [.reg 0 [(5, [.idx j, .inn (.box 1 (bs.map bR) [I n]), .forgM 1 j s (es.set j (s, .hole .undef)) []], none)], .reg 2 [(8, [.be (I (-(bs.length : Int)))], none), (9, [.cellc .i64 (d.used - bs.length) (.int .i64 (d.used - bs.length))], none)], .reg 3 [(5, [.idx j, .beN 1 (es.eraseIdx j)], none)]] [] [
      fidx es s = some j,
      es[j]? = some (s, Inn.box (1 : Nat) (List.map bR bs) [I n]),
      Option.map (fun x0 => Prod.fst x0) (List.set es j (s, Inn.hole (V.ptr (6000 : Nat) (0 : Nat) (0 : Nat) (0 : Nat))))[j]? = some s,
      List.set (List.set es j (s, Inn.hole (V.ptr (6000 : Nat) (0 : Nat) (0 : Nat) (0 : Nat)))) j (s, Inn.hole V.undef) = List.set es j (s, Inn.hole V.undef),
      ∀ (p0 : ByteArray × Inn), List.Mem p0 (List.set es j (s, Inn.hole V.undef)) → ∀ (j2 : Nat), List.Mem j2 (Inn.ids (Prod.snd p0)) → List.Mem j2 [],
      IntKind.wrap IntKind.i64 ((0 : Int) + -Int.ofNat (List.length (List.map bR bs))) = -Int.ofNat (List.length bs),
      CellC Tryz.prog (26 : Nat) IntKind.i64 (Dv.used d) (Dv.used d + -Int.ofNat (List.length bs)) [Value.int IntKind.i64 (-Int.ofNat (List.length bs))] (Value.int IntKind.i64 (Dv.used d + -Int.ofNat (List.length bs))),
      fidx (List.set es j (s, Inn.hole V.undef)) s = some j,
      List.eraseIdx (List.set es j (s, Inn.hole V.undef)) j = List.eraseIdx es j] (by kernel_rfl)
    (by
      simp only [allP]
      and_intros <;> first
        | omega
        | exact addD hu hm
        | exact negW hm hu
        | exact List.set_set ..
        | exact get_undef hg
        | exact ids_undef hids
        | exact era_undef
        | (rw [fidx_keys2 (keys_set2 hg)]; exact hj))

theorem cDropA (d : Dv) (nl : Bool) (es : List (ByteArray × Inn)) (s : ByteArray) (j : Nat) (bs : List UInt8) (n : Int) (hj : fidx es s = some j) (hg : es[j]? = some (s, Inn.box 1 (bs.map bR) [I n])) (hu : 0 ≤ d.used - bs.length) (hm : d.used ≤ 9223372036854775807) (hids : ∀ p ∈ es, ∀ k ∈ p.2.ids, k ∈ ([] : List Nat)) : Contract Tryz.prog 45 [.ptr 0 0 0 0, .val (.string s)] [d.box 1, .nest (.mp nl es) []] (.tup []) [some ((⟨d.room, d.used - bs.length, d.nl, d.fs, d.fuse⟩ : Dv).box 1), some (.nest (.mp nl (es.eraseIdx j)) [])] := by
  exact Contract.cast (by
    first
      | rfl) (by
    first
      | rfl) (cDropA_0 d nl es s j bs n hj hg hu hm hids )

theorem cDropN_0 (d : Dv) (nl : Bool) (es : List (ByteArray × Inn)) (s : ByteArray) (hj : fidx es s = none) : Contract Tryz.prog 45 [.ptr 0 0 0 0, .val (.string s)] [d.box 1, .nest (.mp nl es) []] (V.tup []) ([some (Obj.box [I (Dv.room d), I (Dv.used d), V.val (Value.int IntKind.u32 (bif Dv.nl d then (0 : Int) else (1 : Int))), V.val (Value.int IntKind.i32 (0 : Int)), V.val (Value.int IntKind.u32 (0 : Int)), V.mref (1 : Nat), I (Dv.fuse d)]), some (Obj.nest (Nest.mp nl es) [])]) :=
  vcP hmix [.reg 0 [(5, [.row []], none)]] [] [
      fidx es s = none] (by kernel_rfl)
    (by
      simp only [allP]
      and_intros <;> first
        | omega)

theorem cDropN (d : Dv) (nl : Bool) (es : List (ByteArray × Inn)) (s : ByteArray) (hj : fidx es s = none) : Contract Tryz.prog 45 [.ptr 0 0 0 0, .val (.string s)] [d.box 1, .nest (.mp nl es) []] (.tup []) [some (d.box 1), some (.nest (.mp nl es) [])] := by
  exact Contract.cast (by
    first
      | rfl) (by
    first
      | rfl) (cDropN_0 d nl es s hj )

theorem dropF (d : Dv) {s : ByteArray} {i : Nat} {f : Fi} (hi : fat d.fs s = some i) (ha : d.fs[i]? = some (s, f)) (hu : 0 ≤ d.used - f.bs.length) (hm : d.used ≤ 9223372036854775807) :
    Contract Tryz.prog 45 [.ptr 0 0 0 0, .val (.string s)] [d.box 1, d.map] (.tup []) [some ((⟨d.room, d.used - f.bs.length, d.nl, d.fs.eraseIdx i, d.fuse⟩ : Dv).box 1), some (⟨d.room, d.used - f.bs.length, d.nl, d.fs.eraseIdx i, d.fuse⟩ : Dv).map] := by
  have := cDropA d d.nl (mE d.fs) s i f.bs f.sure (by rw [fidx_mE]; exact hi) (mE_at ha) hu hm ids_none
  rw [mE_erase] at this
  exact this
theorem cDelA_0 (d : Dv) (s : ByteArray) (i : Nat) (f : Fi) (hf : d.fuse ≠ 0) (hfu : d.fuse ≤ 9223372036854775807) (hi : fat d.fs s = some i) (ha : d.fs[i]? = some (s, f)) (hu : 0 ≤ d.used - f.bs.length) (hm : d.used ≤ 9223372036854775807) : Contract Tryz.prog 31 [.ptr 0 0 0 0, .val (.string s)] [d.box 1, d.map] (I (0 : Int)) ([some (Obj.box [I (Dv.room d), I (Dv.used d + -Int.ofNat (List.length (Fi.bs f))), V.val (Value.int IntKind.u32 (bif Dv.nl d then (0 : Int) else (1 : Int))), V.val (Value.int IntKind.i32 (0 : Int)), V.val (Value.int IntKind.u32 (0 : Int)), V.mref (1 : Nat), I (bif decide (Dv.fuse d > (0 : Int)) then Dv.fuse d + (-1 : Int) else Dv.fuse d)]), some (Obj.nest (Nest.mp (Dv.nl d) (mE (List.eraseIdx (Dv.fs d) i))) [])]) :=
  vcP hmix [.reg 1 [(1, [.call [0, 1] [] (I 0) [some (d.box 1), some d.map]], none)], .reg 4 [(5, [.idx i, .inn (.box 1 (f.bs.map bR) [I f.sure]), .shutM 1 i s 806000 (mE d.fs)], none)], .reg 6 [(2, [.call [0, 1] [] (.tup []) [some ((⟨d.room, d.used - f.bs.length, d.nl, d.fs.eraseIdx i, d.fuse⟩ : Dv).box 1), some (⟨d.room, d.used - f.bs.length, d.nl, d.fs.eraseIdx i, d.fuse⟩ : Dv).map]], none)], .reg 7 [(1, [.call [0, 1] [] (I 0) [some ((⟨d.room, d.used - f.bs.length, d.nl, d.fs.eraseIdx i, d.fuse⟩ : Dv).went.box 1), some (⟨d.room, d.used - f.bs.length, d.nl, d.fs.eraseIdx i, d.fuse⟩ : Dv).went.map]], none)]] [] [
      Contract Tryz.prog (22 : Nat) [V.ptr (0 : Nat) (0 : Nat) (0 : Nat) (0 : Nat)] [Obj.box [I (Dv.room d), I (Dv.used d), V.val (Value.int IntKind.u32 (bif Dv.nl d then (0 : Int) else (1 : Int))), V.val (Value.int IntKind.i32 (0 : Int)), V.val (Value.int IntKind.u32 (0 : Int)), V.mref (1 : Nat), I (Dv.fuse d)], Obj.nest (Nest.mp (Dv.nl d) (mE (Dv.fs d))) []] (I (0 : Int)) [some (Obj.box [I (Dv.room d), I (Dv.used d), V.val (Value.int IntKind.u32 (bif Dv.nl d then (0 : Int) else (1 : Int))), V.val (Value.int IntKind.i32 (0 : Int)), V.val (Value.int IntKind.u32 (0 : Int)), V.mref (1 : Nat), I (Dv.fuse d)]), some (Obj.nest (Nest.mp (Dv.nl d) (mE (Dv.fs d))) [])],
      fidx (mE (Dv.fs d)) s = some i,
      (mE (Dv.fs d))[i]? = some (s, Inn.box (1 : Nat) (List.map bR (Fi.bs f)) [I (Fi.sure f)]),
      (List.set (mE (Dv.fs d)) i (s, Inn.hole (V.ptr (806000 : Nat) (0 : Nat) (0 : Nat) (0 : Nat))))[i]? = some (s, Inn.hole (V.ptr (806000 : Nat) (0 : Nat) (0 : Nat) (0 : Nat))),
      List.set (List.set (mE (Dv.fs d)) i (s, Inn.hole (V.ptr (806000 : Nat) (0 : Nat) (0 : Nat) (0 : Nat)))) i (s, Inn.box (1 : Nat) (List.map bR (Fi.bs f)) [I (Fi.sure f)]) = mE (Dv.fs d),
      ∀ (p0 : ByteArray × Inn), List.Mem p0 (mE (Dv.fs d)) → Inn.ids (Prod.snd p0) = [],
      Contract Tryz.prog (45 : Nat) [V.ptr (0 : Nat) (0 : Nat) (0 : Nat) (0 : Nat), Sg s] [Obj.box [I (Dv.room d), I (Dv.used d), V.val (Value.int IntKind.u32 (bif Dv.nl d then (0 : Int) else (1 : Int))), V.val (Value.int IntKind.i32 (0 : Int)), V.val (Value.int IntKind.u32 (0 : Int)), V.mref (1 : Nat), I (Dv.fuse d)], Obj.nest (Nest.mp (Dv.nl d) (mE (Dv.fs d))) []] (V.tup []) [some (Obj.box [I (Dv.room d), I (Dv.used d + -Int.ofNat (List.length (Fi.bs f))), V.val (Value.int IntKind.u32 (bif Dv.nl d then (0 : Int) else (1 : Int))), V.val (Value.int IntKind.i32 (0 : Int)), V.val (Value.int IntKind.u32 (0 : Int)), V.mref (1 : Nat), I (Dv.fuse d)]), some (Obj.nest (Nest.mp (Dv.nl d) (mE (List.eraseIdx (Dv.fs d) i))) [])],
      Contract Tryz.prog (27 : Nat) [V.ptr (0 : Nat) (0 : Nat) (0 : Nat) (0 : Nat)] [Obj.box [I (Dv.room d), I (Dv.used d + -Int.ofNat (List.length (Fi.bs f))), V.val (Value.int IntKind.u32 (bif Dv.nl d then (0 : Int) else (1 : Int))), V.val (Value.int IntKind.i32 (0 : Int)), V.val (Value.int IntKind.u32 (0 : Int)), V.mref (1 : Nat), I (Dv.fuse d)], Obj.nest (Nest.mp (Dv.nl d) (mE (List.eraseIdx (Dv.fs d) i))) []] (I (0 : Int)) [some (Obj.box [I (Dv.room d), I (Dv.used d + -Int.ofNat (List.length (Fi.bs f))), V.val (Value.int IntKind.u32 (bif Dv.nl d then (0 : Int) else (1 : Int))), V.val (Value.int IntKind.i32 (0 : Int)), V.val (Value.int IntKind.u32 (0 : Int)), V.mref (1 : Nat), I (bif decide (Dv.fuse d > (0 : Int)) then Dv.fuse d + (-1 : Int) else Dv.fuse d)]), some (Obj.nest (Nest.mp (Dv.nl d) (mE (List.eraseIdx (Dv.fs d) i))) [])]] (by kernel_rfl)
    (by
      simp only [allP]
      and_intros <;> first
        | exact cDone_ (⟨d.room, d.used - f.bs.length, d.nl, d.fs.eraseIdx i, d.fuse⟩ : Dv) hfu
        | exact dropF d hi ha hu hm
        | exact cMay0 d hf
        | exact mE_ids _
        | exact mE_at ha
        | (rw [fidx_mE]; exact hi)
        | exact mE_get ha
        | exact mE_setback ha)

theorem cDelA (d : Dv) (s : ByteArray) (i : Nat) (f : Fi) (hf : d.fuse ≠ 0) (hfu : d.fuse ≤ 9223372036854775807) (hi : fat d.fs s = some i) (ha : d.fs[i]? = some (s, f)) (hu : 0 ≤ d.used - f.bs.length) (hm : d.used ≤ 9223372036854775807) : Contract Tryz.prog 31 [.ptr 0 0 0 0, .val (.string s)] [d.box 1, d.map] (I 0) [some ((⟨d.room, d.used - f.bs.length, d.nl, d.fs.eraseIdx i, d.fuse⟩ : Dv).went.box 1), some (⟨d.room, d.used - f.bs.length, d.nl, d.fs.eraseIdx i, d.fuse⟩ : Dv).went.map] := by
  exact Contract.cast (by
    first
      | rfl) (by
    first
      | rfl) (cDelA_0 d s i f hf hfu hi ha hu hm )

theorem cDelB_0 (d : Dv) (s : ByteArray) (hf : d.fuse ≠ 0) (hi : fat d.fs s = none) : Contract Tryz.prog 31 [.ptr 0 0 0 0, .val (.string s)] [d.box 1, d.map] (I (4 : Int)) ([some (Obj.box [I (Dv.room d), I (Dv.used d), V.val (Value.int IntKind.u32 (bif Dv.nl d then (0 : Int) else (1 : Int))), V.val (Value.int IntKind.i32 (0 : Int)), V.val (Value.int IntKind.u32 (0 : Int)), V.mref (1 : Nat), I (Dv.fuse d)]), some (Obj.nest (Nest.mp (Dv.nl d) (mE (Dv.fs d))) [])]) :=
  vcP hmix [.reg 1 [(1, [.call [0, 1] [] (I 0) [some (d.box 1), some d.map]], none)], .reg 4 [(5, [.row []], none)]] [] [
      Contract Tryz.prog (22 : Nat) [V.ptr (0 : Nat) (0 : Nat) (0 : Nat) (0 : Nat)] [Obj.box [I (Dv.room d), I (Dv.used d), V.val (Value.int IntKind.u32 (bif Dv.nl d then (0 : Int) else (1 : Int))), V.val (Value.int IntKind.i32 (0 : Int)), V.val (Value.int IntKind.u32 (0 : Int)), V.mref (1 : Nat), I (Dv.fuse d)], Obj.nest (Nest.mp (Dv.nl d) (mE (Dv.fs d))) []] (I (0 : Int)) [some (Obj.box [I (Dv.room d), I (Dv.used d), V.val (Value.int IntKind.u32 (bif Dv.nl d then (0 : Int) else (1 : Int))), V.val (Value.int IntKind.i32 (0 : Int)), V.val (Value.int IntKind.u32 (0 : Int)), V.mref (1 : Nat), I (Dv.fuse d)]), some (Obj.nest (Nest.mp (Dv.nl d) (mE (Dv.fs d))) [])],
      fidx (mE (Dv.fs d)) s = none] (by kernel_rfl)
    (by
      simp only [allP]
      and_intros <;> first
        | exact cMay0 d hf
        | (rw [fidx_mE]; exact hi))

theorem cDelB (d : Dv) (s : ByteArray) (hf : d.fuse ≠ 0) (hi : fat d.fs s = none) : Contract Tryz.prog 31 [.ptr 0 0 0 0, .val (.string s)] [d.box 1, d.map] (I 4) [some (d.box 1), some d.map] := by
  exact Contract.cast (by
    first
      | rfl) (by
    first
      | rfl) (cDelB_0 d s hf hi )

theorem cDelC_0 (d : Dv) (s : ByteArray) (hf : d.fuse = 0) : Contract Tryz.prog 31 [.ptr 0 0 0 0, .val (.string s)] [d.box 1, d.map] (I (5 : Int)) ([some (Obj.box [I (Dv.room d), I (Dv.used d), V.val (Value.int IntKind.u32 (bif Dv.nl d then (0 : Int) else (1 : Int))), V.val (Value.int IntKind.i32 (0 : Int)), V.val (Value.int IntKind.u32 (0 : Int)), V.mref (1 : Nat), I (Dv.fuse d)]), some (Obj.nest (Nest.mp (Dv.nl d) (mE (Dv.fs d))) [])]) :=
  vcP hmix [.reg 1 [(1, [.call [0, 1] [] (I 5) [some (d.box 1), some d.map]], none)]] [] [
      Contract Tryz.prog (22 : Nat) [V.ptr (0 : Nat) (0 : Nat) (0 : Nat) (0 : Nat)] [Obj.box [I (Dv.room d), I (Dv.used d), V.val (Value.int IntKind.u32 (bif Dv.nl d then (0 : Int) else (1 : Int))), V.val (Value.int IntKind.i32 (0 : Int)), V.val (Value.int IntKind.u32 (0 : Int)), V.mref (1 : Nat), I (Dv.fuse d)], Obj.nest (Nest.mp (Dv.nl d) (mE (Dv.fs d))) []] (I (5 : Int)) [some (Obj.box [I (Dv.room d), I (Dv.used d), V.val (Value.int IntKind.u32 (bif Dv.nl d then (0 : Int) else (1 : Int))), V.val (Value.int IntKind.i32 (0 : Int)), V.val (Value.int IntKind.u32 (0 : Int)), V.mref (1 : Nat), I (Dv.fuse d)]), some (Obj.nest (Nest.mp (Dv.nl d) (mE (Dv.fs d))) [])]] (by kernel_rfl)
    (by
      simp only [allP]
      and_intros <;> first
        | exact cMay5 d hf)

theorem cDelC (d : Dv) (s : ByteArray) (hf : d.fuse = 0) : Contract Tryz.prog 31 [.ptr 0 0 0 0, .val (.string s)] [d.box 1, d.map] (I 5) [some (d.box 1), some d.map] := by
  exact Contract.cast (by
    first
      | rfl) (by
    first
      | rfl) (cDelC_0 d s hf )

end Go.Proofs.YtinfjnnffmlpmaaGreatDoor

/- a device: Rename. -/
namespace Go.Proofs.YtinfjnnffmlpmaaGreatDoor
open E
set_option maxRecDepth 100000
set_option linter.unusedVariables false
set_option linter.unusedSimpArgs false

theorem fidx_und {fs : Fs} {i : Nat} {s t : ByteArray} {f : Fi} {c : Inn} (h : fs[i]? = some (s, f)) : fidx ((mE fs).set i (s, c)) t = fat fs t := fidx_keys (keys_set h)
theorem fidx_und2 {fs : Fs} {i j : Nat} {s t : ByteArray} {f : Fi} {c : Inn} (h : fs[i]? = some (s, f)) : fidx (((mE fs).set i (s, c)).eraseIdx j) t = fat (fs.eraseIdx j) t :=
  fidx_keys (by rw [map_erase, keys_set h, ← map_erase])
theorem get_other {fs : Fs} {i j : Nat} {s t : ByteArray} {g : Fi} {c : Inn} (hij : i ≠ j) (h : fs[j]? = some (t, g)) : ((mE fs).set i (s, c))[j]? = some (t, Inn.box 1 (g.bs.map bR) [I g.sure]) := by
  rw [List.getElem?_set, if_neg hij]; exact mE_at h
theorem get_undef2 {fs : Fs} {i : Nat} {s : ByteArray} {f : Fi} {c : Inn} (h : fs[i]? = some (s, f)) : Option.map (fun x => x.1) ((mE fs).set i (s, c))[i]? = some s := get_undef (mE_at h)
theorem cRenC_0 (d : Dv) (s t : ByteArray) (hf : d.fuse = 0) : Contract Tryz.prog 33 [.ptr 0 0 0 0, .val (.string s), .val (.string t)] [d.box 1, d.map] (I (5 : Int)) ([some (Obj.box [I (Dv.room d), I (Dv.used d), V.val (Value.int IntKind.u32 (bif Dv.nl d then (0 : Int) else (1 : Int))), V.val (Value.int IntKind.i32 (0 : Int)), V.val (Value.int IntKind.u32 (0 : Int)), V.mref (1 : Nat), I (Dv.fuse d)]), some (Obj.nest (Nest.mp (Dv.nl d) (mE (Dv.fs d))) [])]) :=
  vcP hmix [.reg 1 [(1, [.call [0, 1] [] (I 5) [some (d.box 1), some d.map]], none)]] [] [
      Contract Tryz.prog (22 : Nat) [V.ptr (0 : Nat) (0 : Nat) (0 : Nat) (0 : Nat)] [Obj.box [I (Dv.room d), I (Dv.used d), V.val (Value.int IntKind.u32 (bif Dv.nl d then (0 : Int) else (1 : Int))), V.val (Value.int IntKind.i32 (0 : Int)), V.val (Value.int IntKind.u32 (0 : Int)), V.mref (1 : Nat), I (Dv.fuse d)], Obj.nest (Nest.mp (Dv.nl d) (mE (Dv.fs d))) []] (I (5 : Int)) [some (Obj.box [I (Dv.room d), I (Dv.used d), V.val (Value.int IntKind.u32 (bif Dv.nl d then (0 : Int) else (1 : Int))), V.val (Value.int IntKind.i32 (0 : Int)), V.val (Value.int IntKind.u32 (0 : Int)), V.mref (1 : Nat), I (Dv.fuse d)]), some (Obj.nest (Nest.mp (Dv.nl d) (mE (Dv.fs d))) [])]] (by kernel_rfl)
    (by
      simp only [allP]
      and_intros <;> first
        | exact cMay5 d hf)

theorem cRenC (d : Dv) (s t : ByteArray) (hf : d.fuse = 0) : Contract Tryz.prog 33 [.ptr 0 0 0 0, .val (.string s), .val (.string t)] [d.box 1, d.map] (I 5) [some (d.box 1), some d.map] := by
  exact Contract.cast (by
    first
      | rfl) (by
    first
      | rfl) (cRenC_0 d s t hf )

theorem cRenB_0 (d : Dv) (s t : ByteArray) (hf : d.fuse ≠ 0) (hi : fat d.fs s = none) : Contract Tryz.prog 33 [.ptr 0 0 0 0, .val (.string s), .val (.string t)] [d.box 1, d.map] (I (4 : Int)) ([some (Obj.box [I (Dv.room d), I (Dv.used d), V.val (Value.int IntKind.u32 (bif Dv.nl d then (0 : Int) else (1 : Int))), V.val (Value.int IntKind.i32 (0 : Int)), V.val (Value.int IntKind.u32 (0 : Int)), V.mref (1 : Nat), I (Dv.fuse d)]), some (Obj.nest (Nest.mp (Dv.nl d) (mE (Dv.fs d))) [])]) :=
  vcP hmix [.reg 1 [(1, [.call [0, 1] [] (I 0) [some (d.box 1), some d.map]], none)], .reg 4 [(5, [.row []], none)]] [] [
      Contract Tryz.prog (22 : Nat) [V.ptr (0 : Nat) (0 : Nat) (0 : Nat) (0 : Nat)] [Obj.box [I (Dv.room d), I (Dv.used d), V.val (Value.int IntKind.u32 (bif Dv.nl d then (0 : Int) else (1 : Int))), V.val (Value.int IntKind.i32 (0 : Int)), V.val (Value.int IntKind.u32 (0 : Int)), V.mref (1 : Nat), I (Dv.fuse d)], Obj.nest (Nest.mp (Dv.nl d) (mE (Dv.fs d))) []] (I (0 : Int)) [some (Obj.box [I (Dv.room d), I (Dv.used d), V.val (Value.int IntKind.u32 (bif Dv.nl d then (0 : Int) else (1 : Int))), V.val (Value.int IntKind.i32 (0 : Int)), V.val (Value.int IntKind.u32 (0 : Int)), V.mref (1 : Nat), I (Dv.fuse d)]), some (Obj.nest (Nest.mp (Dv.nl d) (mE (Dv.fs d))) [])],
      fidx (mE (Dv.fs d)) s = none] (by kernel_rfl)
    (by
      simp only [allP]
      and_intros <;> first
        | exact cMay0 d hf
        | (rw [fidx_mE]; exact hi))

theorem cRenB (d : Dv) (s t : ByteArray) (hf : d.fuse ≠ 0) (hi : fat d.fs s = none) : Contract Tryz.prog 33 [.ptr 0 0 0 0, .val (.string s), .val (.string t)] [d.box 1, d.map] (I 4) [some (d.box 1), some d.map] := by
  exact Contract.cast (by
    first
      | rfl) (by
    first
      | rfl) (cRenB_0 d s t hf hi )

theorem cRenE_0 (d : Dv) (s t : ByteArray) (i : Nat) (f : Fi) (hf : d.fuse ≠ 0) (ht : (ByteArray.toList t == []) = true) (hi : fat d.fs s = some i) (ha : d.fs[i]? = some (s, f)) : Contract Tryz.prog 33 [.ptr 0 0 0 0, .val (.string s), .val (.string t)] [d.box 1, d.map] (I (1 : Int)) ([some (Obj.box [I (Dv.room d), I (Dv.used d), V.val (Value.int IntKind.u32 (bif Dv.nl d then (0 : Int) else (1 : Int))), V.val (Value.int IntKind.i32 (0 : Int)), V.val (Value.int IntKind.u32 (0 : Int)), V.mref (1 : Nat), I (Dv.fuse d)]), some (Obj.nest (Nest.mp (Dv.nl d) (mE (Dv.fs d))) [])]) :=
  vcP hmix [.reg 1 [(1, [.call [0, 1] [] (I 0) [some (d.box 1), some d.map]], none)], .reg 4 [(5, [.idx i, .inn (.box 1 (f.bs.map bR) [I f.sure]), .shutM 1 i s 806000 (mE d.fs)], none)], .reg 7 [(1, [], some true)]] [] [
      Contract Tryz.prog (22 : Nat) [V.ptr (0 : Nat) (0 : Nat) (0 : Nat) (0 : Nat)] [Obj.box [I (Dv.room d), I (Dv.used d), V.val (Value.int IntKind.u32 (bif Dv.nl d then (0 : Int) else (1 : Int))), V.val (Value.int IntKind.i32 (0 : Int)), V.val (Value.int IntKind.u32 (0 : Int)), V.mref (1 : Nat), I (Dv.fuse d)], Obj.nest (Nest.mp (Dv.nl d) (mE (Dv.fs d))) []] (I (0 : Int)) [some (Obj.box [I (Dv.room d), I (Dv.used d), V.val (Value.int IntKind.u32 (bif Dv.nl d then (0 : Int) else (1 : Int))), V.val (Value.int IntKind.i32 (0 : Int)), V.val (Value.int IntKind.u32 (0 : Int)), V.mref (1 : Nat), I (Dv.fuse d)]), some (Obj.nest (Nest.mp (Dv.nl d) (mE (Dv.fs d))) [])],
      fidx (mE (Dv.fs d)) s = some i,
      (mE (Dv.fs d))[i]? = some (s, Inn.box (1 : Nat) (List.map bR (Fi.bs f)) [I (Fi.sure f)]),
      (List.set (mE (Dv.fs d)) i (s, Inn.hole (V.ptr (806000 : Nat) (0 : Nat) (0 : Nat) (0 : Nat))))[i]? = some (s, Inn.hole (V.ptr (806000 : Nat) (0 : Nat) (0 : Nat) (0 : Nat))),
      List.set (List.set (mE (Dv.fs d)) i (s, Inn.hole (V.ptr (806000 : Nat) (0 : Nat) (0 : Nat) (0 : Nat)))) i (s, Inn.box (1 : Nat) (List.map bR (Fi.bs f)) [I (Fi.sure f)]) = mE (Dv.fs d),
      ∀ (p0 : ByteArray × Inn), List.Mem p0 (mE (Dv.fs d)) → Inn.ids (Prod.snd p0) = [],
      (ByteArray.toList t == []) = true] (by kernel_rfl)
    (by
      simp only [allP]
      and_intros <;> first
        | omega
        | exact cMay0 d hf
        | exact mE_ids _
        | exact mE_at ha
        | (rw [fidx_mE]; exact hi)
        | exact mE_get ha
        | exact mE_setback ha)

theorem cRenE (d : Dv) (s t : ByteArray) (i : Nat) (f : Fi) (hf : d.fuse ≠ 0) (ht : (ByteArray.toList t == []) = true) (hi : fat d.fs s = some i) (ha : d.fs[i]? = some (s, f)) : Contract Tryz.prog 33 [.ptr 0 0 0 0, .val (.string s), .val (.string t)] [d.box 1, d.map] (I 1) [some (d.box 1), some d.map] := by
  exact Contract.cast (by
    first
      | rfl) (by
    first
      | rfl) (cRenE_0 d s t i f hf ht hi ha )

theorem cRenS_0 (d : Dv) (s : ByteArray) (i : Nat) (f : Fi) (hf : d.fuse ≠ 0) (hfu : d.fuse ≤ 9223372036854775807) (ht : (ByteArray.toList s == []) = false) (hi : fat d.fs s = some i) (ha : d.fs[i]? = some (s, f)) : Contract Tryz.prog 33 [.ptr 0 0 0 0, .val (.string s), .val (.string s)] [d.box 1, d.map] (I (0 : Int)) ([some (Obj.box [I (Dv.room d), I (Dv.used d), V.val (Value.int IntKind.u32 (bif Dv.nl d then (0 : Int) else (1 : Int))), V.val (Value.int IntKind.i32 (0 : Int)), V.val (Value.int IntKind.u32 (0 : Int)), V.mref (1 : Nat), I (bif decide (Dv.fuse d > (0 : Int)) then Dv.fuse d + (-1 : Int) else Dv.fuse d)]), some (Obj.nest (Nest.mp (Dv.nl d) (mE (Dv.fs d))) [])]) :=
  vcP hmix [.reg 1 [(1, [.call [0, 1] [] (I 0) [some (d.box 1), some d.map]], none)], .reg 4 [(5, [.idx i, .inn (.box 1 (f.bs.map bR) [I f.sure]), .shutM 1 i s 806000 (mE d.fs)], none)], .reg 7 [(1, [], some false)], .reg 9 [(2, [], some false)], .reg 13 [(1, [.call [0, 1] [] (I 0) [some (d.went.box 1), some d.went.map]], none)]] [] [
      Contract Tryz.prog (22 : Nat) [V.ptr (0 : Nat) (0 : Nat) (0 : Nat) (0 : Nat)] [Obj.box [I (Dv.room d), I (Dv.used d), V.val (Value.int IntKind.u32 (bif Dv.nl d then (0 : Int) else (1 : Int))), V.val (Value.int IntKind.i32 (0 : Int)), V.val (Value.int IntKind.u32 (0 : Int)), V.mref (1 : Nat), I (Dv.fuse d)], Obj.nest (Nest.mp (Dv.nl d) (mE (Dv.fs d))) []] (I (0 : Int)) [some (Obj.box [I (Dv.room d), I (Dv.used d), V.val (Value.int IntKind.u32 (bif Dv.nl d then (0 : Int) else (1 : Int))), V.val (Value.int IntKind.i32 (0 : Int)), V.val (Value.int IntKind.u32 (0 : Int)), V.mref (1 : Nat), I (Dv.fuse d)]), some (Obj.nest (Nest.mp (Dv.nl d) (mE (Dv.fs d))) [])],
      fidx (mE (Dv.fs d)) s = some i,
      (mE (Dv.fs d))[i]? = some (s, Inn.box (1 : Nat) (List.map bR (Fi.bs f)) [I (Fi.sure f)]),
      (List.set (mE (Dv.fs d)) i (s, Inn.hole (V.ptr (806000 : Nat) (0 : Nat) (0 : Nat) (0 : Nat))))[i]? = some (s, Inn.hole (V.ptr (806000 : Nat) (0 : Nat) (0 : Nat) (0 : Nat))),
      List.set (List.set (mE (Dv.fs d)) i (s, Inn.hole (V.ptr (806000 : Nat) (0 : Nat) (0 : Nat) (0 : Nat)))) i (s, Inn.box (1 : Nat) (List.map bR (Fi.bs f)) [I (Fi.sure f)]) = mE (Dv.fs d),
      ∀ (p0 : ByteArray × Inn), List.Mem p0 (mE (Dv.fs d)) → Inn.ids (Prod.snd p0) = [],
      (ByteArray.toList s == []) = false,
      (!ByteArray.toList s == ByteArray.toList s) = false,
      Contract Tryz.prog (27 : Nat) [V.ptr (0 : Nat) (0 : Nat) (0 : Nat) (0 : Nat)] [Obj.box [I (Dv.room d), I (Dv.used d), V.val (Value.int IntKind.u32 (bif Dv.nl d then (0 : Int) else (1 : Int))), V.val (Value.int IntKind.i32 (0 : Int)), V.val (Value.int IntKind.u32 (0 : Int)), V.mref (1 : Nat), I (Dv.fuse d)], Obj.nest (Nest.mp (Dv.nl d) (mE (Dv.fs d))) []] (I (0 : Int)) [some (Obj.box [I (Dv.room d), I (Dv.used d), V.val (Value.int IntKind.u32 (bif Dv.nl d then (0 : Int) else (1 : Int))), V.val (Value.int IntKind.i32 (0 : Int)), V.val (Value.int IntKind.u32 (0 : Int)), V.mref (1 : Nat), I (bif decide (Dv.fuse d > (0 : Int)) then Dv.fuse d + (-1 : Int) else Dv.fuse d)]), some (Obj.nest (Nest.mp (Dv.nl d) (mE (Dv.fs d))) [])]] (by kernel_rfl)
    (by
      simp only [allP]
      and_intros <;> first
        | omega
        | exact cDone_ d hfu
        | exact cMay0 d hf
        | exact mE_ids _
        | exact mE_at ha
        | (rw [fidx_mE]; exact hi)
        | exact mE_get ha
        | exact mE_setback ha
        | (simp; done))

theorem cRenS (d : Dv) (s : ByteArray) (i : Nat) (f : Fi) (hf : d.fuse ≠ 0) (hfu : d.fuse ≤ 9223372036854775807) (ht : (ByteArray.toList s == []) = false) (hi : fat d.fs s = some i) (ha : d.fs[i]? = some (s, f)) : Contract Tryz.prog 33 [.ptr 0 0 0 0, .val (.string s), .val (.string s)] [d.box 1, d.map] (I 0) [some (d.went.box 1), some d.went.map] := by
  exact Contract.cast (by
    first
      | rfl) (by
    first
      | rfl) (cRenS_0 d s i f hf hfu ht hi ha )

theorem cRenN_0 (d : Dv) (s t : ByteArray) (i : Nat) (f : Fi) (hf : d.fuse ≠ 0) (hfu : d.fuse ≤ 9223372036854775807) (ht : (ByteArray.toList t == []) = false) (hst : (!(ByteArray.toList s == ByteArray.toList t)) = true) (hnl : d.nl = false) (hi : fat d.fs s = some i) (ha : d.fs[i]? = some (s, f)) (hj : fat d.fs t = none) (hk : fat (d.fs.eraseIdx i) t = none) : Contract Tryz.prog 33 [.ptr 0 0 0 0, .val (.string s), .val (.string t)] [d.box 1, d.map] (I (0 : Int)) ([some (Obj.box [I (Dv.room d), I (Dv.used d), V.val (Value.int IntKind.u32 (bif Dv.nl d then (0 : Int) else (1 : Int))), V.val (Value.int IntKind.i32 (0 : Int)), V.val (Value.int IntKind.u32 (0 : Int)), V.mref (1 : Nat), I (bif decide (Dv.fuse d > (0 : Int)) then Dv.fuse d + (-1 : Int) else Dv.fuse d)]), some (Obj.nest (Nest.mp (Dv.nl d) (mE (List.eraseIdx (Dv.fs d) i ++ [(t, { bs := Fi.bs f, sure := Fi.sure f })]))) [])]) :=
  vcP hmix [.reg 1 [(1, [.call [0, 1] [] (I 0) [some (d.box 1), some d.map]], none)], .reg 4 [(5, [.idx i, .inn (.box 1 (f.bs.map bR) [I f.sure]), .forgM 1 i s ((mE d.fs).set i (s, .hole .undef)) []], none)], .reg 7 [(1, [], some false)], .reg 9 [(2, [], some true)], .reg 10 [(2, [.call [0, 1] [] (.tup []) [some (d.box 1), some (.nest (.mp d.nl ((mE d.fs).set i (s, .hole .undef))) [])]], none)], .reg 11 [(5, [.idx i, .beN 1 (mE (d.fs.eraseIdx i))], none)], .reg 12 [(6, [.shutM 1 (d.fs.eraseIdx i).length t 806000 (mE (d.fs.eraseIdx i ++ [(t, ⟨f.bs, f.sure⟩)]))], none)], .reg 13 [(1, [.call [0, 1] [] (I 0) [some ((⟨d.room, d.used, d.nl, d.fs.eraseIdx i ++ [(t, ⟨f.bs, f.sure⟩)], d.fuse⟩ : Dv).went.box 1), some (⟨d.room, d.used, d.nl, d.fs.eraseIdx i ++ [(t, ⟨f.bs, f.sure⟩)], d.fuse⟩ : Dv).went.map]], none)]] [] [
      Contract Tryz.prog (22 : Nat) [V.ptr (0 : Nat) (0 : Nat) (0 : Nat) (0 : Nat)] [Obj.box [I (Dv.room d), I (Dv.used d), V.val (Value.int IntKind.u32 (bif Dv.nl d then (0 : Int) else (1 : Int))), V.val (Value.int IntKind.i32 (0 : Int)), V.val (Value.int IntKind.u32 (0 : Int)), V.mref (1 : Nat), I (Dv.fuse d)], Obj.nest (Nest.mp (Dv.nl d) (mE (Dv.fs d))) []] (I (0 : Int)) [some (Obj.box [I (Dv.room d), I (Dv.used d), V.val (Value.int IntKind.u32 (bif Dv.nl d then (0 : Int) else (1 : Int))), V.val (Value.int IntKind.i32 (0 : Int)), V.val (Value.int IntKind.u32 (0 : Int)), V.mref (1 : Nat), I (Dv.fuse d)]), some (Obj.nest (Nest.mp (Dv.nl d) (mE (Dv.fs d))) [])],
      fidx (mE (Dv.fs d)) s = some i,
      (mE (Dv.fs d))[i]? = some (s, Inn.box (1 : Nat) (List.map bR (Fi.bs f)) [I (Fi.sure f)]),
      Option.map (fun x0 => Prod.fst x0) (List.set (mE (Dv.fs d)) i (s, Inn.hole (V.ptr (806000 : Nat) (0 : Nat) (0 : Nat) (0 : Nat))))[i]? = some s,
      List.set (List.set (mE (Dv.fs d)) i (s, Inn.hole (V.ptr (806000 : Nat) (0 : Nat) (0 : Nat) (0 : Nat)))) i (s, Inn.hole V.undef) = List.set (mE (Dv.fs d)) i (s, Inn.hole V.undef),
      ∀ (p0 : ByteArray × Inn), List.Mem p0 (List.set (mE (Dv.fs d)) i (s, Inn.hole V.undef)) → ∀ (j2 : Nat), List.Mem j2 (Inn.ids (Prod.snd p0)) → List.Mem j2 [],
      (ByteArray.toList t == []) = false,
      (!ByteArray.toList s == ByteArray.toList t) = true,
      Contract Tryz.prog (45 : Nat) [V.ptr (0 : Nat) (0 : Nat) (0 : Nat) (0 : Nat), Sg t] [Obj.box [I (Dv.room d), I (Dv.used d), V.val (Value.int IntKind.u32 (bif Dv.nl d then (0 : Int) else (1 : Int))), V.val (Value.int IntKind.i32 (0 : Int)), V.val (Value.int IntKind.u32 (0 : Int)), V.mref (1 : Nat), I (Dv.fuse d)], Obj.nest (Nest.mp (Dv.nl d) (List.set (mE (Dv.fs d)) i (s, Inn.hole V.undef))) []] (V.tup []) [some (Obj.box [I (Dv.room d), I (Dv.used d), V.val (Value.int IntKind.u32 (bif Dv.nl d then (0 : Int) else (1 : Int))), V.val (Value.int IntKind.i32 (0 : Int)), V.val (Value.int IntKind.u32 (0 : Int)), V.mref (1 : Nat), I (Dv.fuse d)]), some (Obj.nest (Nest.mp (Dv.nl d) (List.set (mE (Dv.fs d)) i (s, Inn.hole V.undef))) [])],
      fidx (List.set (mE (Dv.fs d)) i (s, Inn.hole V.undef)) s = some i,
      List.eraseIdx (List.set (mE (Dv.fs d)) i (s, Inn.hole V.undef)) i = mE (List.eraseIdx (Dv.fs d) i),
      Dv.nl d = false,
      fidx (mE (List.eraseIdx (Dv.fs d) i)) t = none,
      (mE (List.eraseIdx (Dv.fs d) i) ++ [(t, Inn.hole (V.ptr (806000 : Nat) (0 : Nat) (0 : Nat) (0 : Nat)))])[List.length (List.eraseIdx (Dv.fs d) i)]? = some (t, Inn.hole (V.ptr (806000 : Nat) (0 : Nat) (0 : Nat) (0 : Nat))),
      List.set (mE (List.eraseIdx (Dv.fs d) i) ++ [(t, Inn.hole (V.ptr (806000 : Nat) (0 : Nat) (0 : Nat) (0 : Nat)))]) (List.length (List.eraseIdx (Dv.fs d) i)) (t, Inn.box (1 : Nat) (List.map bR (Fi.bs f)) [I (Fi.sure f)]) = mE (List.eraseIdx (Dv.fs d) i ++ [(t, { bs := Fi.bs f, sure := Fi.sure f })]),
      ∀ (p0 : ByteArray × Inn), List.Mem p0 (mE (List.eraseIdx (Dv.fs d) i ++ [(t, { bs := Fi.bs f, sure := Fi.sure f })])) → Inn.ids (Prod.snd p0) = [],
      Contract Tryz.prog (27 : Nat) [V.ptr (0 : Nat) (0 : Nat) (0 : Nat) (0 : Nat)] [Obj.box [I (Dv.room d), I (Dv.used d), V.val (Value.int IntKind.u32 (bif Dv.nl d then (0 : Int) else (1 : Int))), V.val (Value.int IntKind.i32 (0 : Int)), V.val (Value.int IntKind.u32 (0 : Int)), V.mref (1 : Nat), I (Dv.fuse d)], Obj.nest (Nest.mp (Dv.nl d) (mE (List.eraseIdx (Dv.fs d) i ++ [(t, { bs := Fi.bs f, sure := Fi.sure f })]))) []] (I (0 : Int)) [some (Obj.box [I (Dv.room d), I (Dv.used d), V.val (Value.int IntKind.u32 (bif Dv.nl d then (0 : Int) else (1 : Int))), V.val (Value.int IntKind.i32 (0 : Int)), V.val (Value.int IntKind.u32 (0 : Int)), V.mref (1 : Nat), I (bif decide (Dv.fuse d > (0 : Int)) then Dv.fuse d + (-1 : Int) else Dv.fuse d)]), some (Obj.nest (Nest.mp (Dv.nl d) (mE (List.eraseIdx (Dv.fs d) i ++ [(t, { bs := Fi.bs f, sure := Fi.sure f })]))) [])]] (by kernel_rfl)
    (by
      simp only [allP]
      and_intros <;> first
        | omega
        | exact cDone_ (⟨d.room, d.used, d.nl, d.fs.eraseIdx i ++ [(t, ⟨f.bs, f.sure⟩)], d.fuse⟩ : Dv) hfu
        | exact cDropN d d.nl ((mE d.fs).set i (s, .hole .undef)) t (by rw [fidx_und ha]; exact hj)
        | (rw [fidx_mE]; exact hk)
        | exact cMay0 d hf
        | exact mE_ids _
        | exact mE_at ha
        | (rw [fidx_mE]; exact hi)
        | exact mE_push _ _ _ _ _
        | exact mE_last _ _ _
        | exact mE_undef
        | exact get_undef2 ha
        | exact ids_undef ids_none
        | exact mE_era
        | (rw [fidx_und ha]; exact hi))

theorem cRenN (d : Dv) (s t : ByteArray) (i : Nat) (f : Fi) (hf : d.fuse ≠ 0) (hfu : d.fuse ≤ 9223372036854775807) (ht : (ByteArray.toList t == []) = false) (hst : (!(ByteArray.toList s == ByteArray.toList t)) = true) (hnl : d.nl = false) (hi : fat d.fs s = some i) (ha : d.fs[i]? = some (s, f)) (hj : fat d.fs t = none) (hk : fat (d.fs.eraseIdx i) t = none) : Contract Tryz.prog 33 [.ptr 0 0 0 0, .val (.string s), .val (.string t)] [d.box 1, d.map] (I 0) [some ((⟨d.room, d.used, d.nl, d.fs.eraseIdx i ++ [(t, ⟨f.bs, f.sure⟩)], d.fuse⟩ : Dv).went.box 1), some (⟨d.room, d.used, d.nl, d.fs.eraseIdx i ++ [(t, ⟨f.bs, f.sure⟩)], d.fuse⟩ : Dv).went.map] := by
  exact Contract.cast (by
    first
      | rfl) (by
    first
      | rfl) (cRenN_0 d s t i f hf hfu ht hst hnl hi ha hj hk )

theorem cRenT_0 (d : Dv) (s t : ByteArray) (i : Nat) (f : Fi) (j k : Nat) (g : Fi) (hf : d.fuse ≠ 0) (hfu : d.fuse ≤ 9223372036854775807) (ht : (ByteArray.toList t == []) = false) (hst : (!(ByteArray.toList s == ByteArray.toList t)) = true) (hnl : d.nl = false) (hi : fat d.fs s = some i) (ha : d.fs[i]? = some (s, f)) (hj : fat d.fs t = some j) (hg : d.fs[j]? = some (t, g)) (hij : i ≠ j) (hu : 0 ≤ d.used - g.bs.length) (hm : d.used ≤ 9223372036854775807) (hs : fat (d.fs.eraseIdx j) s = some k) (he : ∀ x, (((mE d.fs).set i x).eraseIdx j).eraseIdx k = mE ((d.fs.eraseIdx j).eraseIdx k)) (hk : fat ((d.fs.eraseIdx j).eraseIdx k) t = none) : Contract Tryz.prog 33 [.ptr 0 0 0 0, .val (.string s), .val (.string t)] [d.box 1, d.map] (I (0 : Int)) ([some (Obj.box [I (Dv.room d), I (Dv.used d + -Int.ofNat (List.length (Fi.bs g))), V.val (Value.int IntKind.u32 (bif Dv.nl d then (0 : Int) else (1 : Int))), V.val (Value.int IntKind.i32 (0 : Int)), V.val (Value.int IntKind.u32 (0 : Int)), V.mref (1 : Nat), I (bif decide (Dv.fuse d > (0 : Int)) then Dv.fuse d + (-1 : Int) else Dv.fuse d)]), some (Obj.nest (Nest.mp (Dv.nl d) (mE (List.eraseIdx (List.eraseIdx (Dv.fs d) j) k ++ [(t, { bs := Fi.bs f, sure := Fi.sure f })]))) [])]) :=
  vcP hmix [.reg 1 [(1, [.call [0, 1] [] (I 0) [some (d.box 1), some d.map]], none)], .reg 4 [(5, [.idx i, .inn (.box 1 (f.bs.map bR) [I f.sure]), .forgM 1 i s ((mE d.fs).set i (s, .hole .undef)) []], none)], .reg 7 [(1, [], some false)], .reg 9 [(2, [], some true)], .reg 10 [(2, [.call [0, 1] [] (.tup []) [some ((⟨d.room, d.used - g.bs.length, d.nl, (d.fs.eraseIdx j).eraseIdx k ++ [(t, ⟨f.bs, f.sure⟩)], d.fuse⟩ : Dv).box 1), some (.nest (.mp d.nl (((mE d.fs).set i (s, .hole .undef)).eraseIdx j)) [])]], none)], .reg 11 [(5, [.idx k, .beN 1 (mE ((d.fs.eraseIdx j).eraseIdx k))], none)], .reg 12 [(6, [.shutM 1 ((d.fs.eraseIdx j).eraseIdx k).length t 806000 (mE ((d.fs.eraseIdx j).eraseIdx k ++ [(t, ⟨f.bs, f.sure⟩)]))], none)], .reg 13 [(1, [.call [0, 1] [] (I 0) [some ((⟨d.room, d.used - g.bs.length, d.nl, (d.fs.eraseIdx j).eraseIdx k ++ [(t, ⟨f.bs, f.sure⟩)], d.fuse⟩ : Dv).went.box 1), some (⟨d.room, d.used - g.bs.length, d.nl, (d.fs.eraseIdx j).eraseIdx k ++ [(t, ⟨f.bs, f.sure⟩)], d.fuse⟩ : Dv).went.map]], none)]] [] [
      Contract Tryz.prog (22 : Nat) [V.ptr (0 : Nat) (0 : Nat) (0 : Nat) (0 : Nat)] [Obj.box [I (Dv.room d), I (Dv.used d), V.val (Value.int IntKind.u32 (bif Dv.nl d then (0 : Int) else (1 : Int))), V.val (Value.int IntKind.i32 (0 : Int)), V.val (Value.int IntKind.u32 (0 : Int)), V.mref (1 : Nat), I (Dv.fuse d)], Obj.nest (Nest.mp (Dv.nl d) (mE (Dv.fs d))) []] (I (0 : Int)) [some (Obj.box [I (Dv.room d), I (Dv.used d), V.val (Value.int IntKind.u32 (bif Dv.nl d then (0 : Int) else (1 : Int))), V.val (Value.int IntKind.i32 (0 : Int)), V.val (Value.int IntKind.u32 (0 : Int)), V.mref (1 : Nat), I (Dv.fuse d)]), some (Obj.nest (Nest.mp (Dv.nl d) (mE (Dv.fs d))) [])],
      fidx (mE (Dv.fs d)) s = some i,
      (mE (Dv.fs d))[i]? = some (s, Inn.box (1 : Nat) (List.map bR (Fi.bs f)) [I (Fi.sure f)]),
      Option.map (fun x0 => Prod.fst x0) (List.set (mE (Dv.fs d)) i (s, Inn.hole (V.ptr (806000 : Nat) (0 : Nat) (0 : Nat) (0 : Nat))))[i]? = some s,
      List.set (List.set (mE (Dv.fs d)) i (s, Inn.hole (V.ptr (806000 : Nat) (0 : Nat) (0 : Nat) (0 : Nat)))) i (s, Inn.hole V.undef) = List.set (mE (Dv.fs d)) i (s, Inn.hole V.undef),
      ∀ (p0 : ByteArray × Inn), List.Mem p0 (List.set (mE (Dv.fs d)) i (s, Inn.hole V.undef)) → ∀ (j2 : Nat), List.Mem j2 (Inn.ids (Prod.snd p0)) → List.Mem j2 [],
      (ByteArray.toList t == []) = false,
      (!ByteArray.toList s == ByteArray.toList t) = true,
      Contract Tryz.prog (45 : Nat) [V.ptr (0 : Nat) (0 : Nat) (0 : Nat) (0 : Nat), Sg t] [Obj.box [I (Dv.room d), I (Dv.used d), V.val (Value.int IntKind.u32 (bif Dv.nl d then (0 : Int) else (1 : Int))), V.val (Value.int IntKind.i32 (0 : Int)), V.val (Value.int IntKind.u32 (0 : Int)), V.mref (1 : Nat), I (Dv.fuse d)], Obj.nest (Nest.mp (Dv.nl d) (List.set (mE (Dv.fs d)) i (s, Inn.hole V.undef))) []] (V.tup []) [some (Obj.box [I (Dv.room d), I (Dv.used d + -Int.ofNat (List.length (Fi.bs g))), V.val (Value.int IntKind.u32 (bif Dv.nl d then (0 : Int) else (1 : Int))), V.val (Value.int IntKind.i32 (0 : Int)), V.val (Value.int IntKind.u32 (0 : Int)), V.mref (1 : Nat), I (Dv.fuse d)]), some (Obj.nest (Nest.mp (Dv.nl d) (List.eraseIdx (List.set (mE (Dv.fs d)) i (s, Inn.hole V.undef)) j)) [])],
      fidx (List.eraseIdx (List.set (mE (Dv.fs d)) i (s, Inn.hole V.undef)) j) s = some k,
      List.eraseIdx (List.eraseIdx (List.set (mE (Dv.fs d)) i (s, Inn.hole V.undef)) j) k = mE (List.eraseIdx (List.eraseIdx (Dv.fs d) j) k),
      Dv.nl d = false,
      fidx (mE (List.eraseIdx (List.eraseIdx (Dv.fs d) j) k)) t = none,
      (mE (List.eraseIdx (List.eraseIdx (Dv.fs d) j) k) ++ [(t, Inn.hole (V.ptr (806000 : Nat) (0 : Nat) (0 : Nat) (0 : Nat)))])[List.length (List.eraseIdx (List.eraseIdx (Dv.fs d) j) k)]? = some (t, Inn.hole (V.ptr (806000 : Nat) (0 : Nat) (0 : Nat) (0 : Nat))),
      List.set (mE (List.eraseIdx (List.eraseIdx (Dv.fs d) j) k) ++ [(t, Inn.hole (V.ptr (806000 : Nat) (0 : Nat) (0 : Nat) (0 : Nat)))]) (List.length (List.eraseIdx (List.eraseIdx (Dv.fs d) j) k)) (t, Inn.box (1 : Nat) (List.map bR (Fi.bs f)) [I (Fi.sure f)]) = mE (List.eraseIdx (List.eraseIdx (Dv.fs d) j) k ++ [(t, { bs := Fi.bs f, sure := Fi.sure f })]),
      ∀ (p0 : ByteArray × Inn), List.Mem p0 (mE (List.eraseIdx (List.eraseIdx (Dv.fs d) j) k ++ [(t, { bs := Fi.bs f, sure := Fi.sure f })])) → Inn.ids (Prod.snd p0) = [],
      Contract Tryz.prog (27 : Nat) [V.ptr (0 : Nat) (0 : Nat) (0 : Nat) (0 : Nat)] [Obj.box [I (Dv.room d), I (Dv.used d + -Int.ofNat (List.length (Fi.bs g))), V.val (Value.int IntKind.u32 (bif Dv.nl d then (0 : Int) else (1 : Int))), V.val (Value.int IntKind.i32 (0 : Int)), V.val (Value.int IntKind.u32 (0 : Int)), V.mref (1 : Nat), I (Dv.fuse d)], Obj.nest (Nest.mp (Dv.nl d) (mE (List.eraseIdx (List.eraseIdx (Dv.fs d) j) k ++ [(t, { bs := Fi.bs f, sure := Fi.sure f })]))) []] (I (0 : Int)) [some (Obj.box [I (Dv.room d), I (Dv.used d + -Int.ofNat (List.length (Fi.bs g))), V.val (Value.int IntKind.u32 (bif Dv.nl d then (0 : Int) else (1 : Int))), V.val (Value.int IntKind.i32 (0 : Int)), V.val (Value.int IntKind.u32 (0 : Int)), V.mref (1 : Nat), I (bif decide (Dv.fuse d > (0 : Int)) then Dv.fuse d + (-1 : Int) else Dv.fuse d)]), some (Obj.nest (Nest.mp (Dv.nl d) (mE (List.eraseIdx (List.eraseIdx (Dv.fs d) j) k ++ [(t, { bs := Fi.bs f, sure := Fi.sure f })]))) [])]] (by kernel_rfl)
    (by
      simp only [allP]
      and_intros <;> first
        | omega
        | exact cDone_ (⟨d.room, d.used - g.bs.length, d.nl, (d.fs.eraseIdx j).eraseIdx k ++ [(t, ⟨f.bs, f.sure⟩)], d.fuse⟩ : Dv) hfu
        | exact cDropA d d.nl ((mE d.fs).set i (s, .hole .undef)) t j g.bs g.sure (by rw [fidx_und ha]; exact hj) (get_other hij hg) hu hm (ids_undef ids_none)
        | (rw [fidx_und2 ha]; exact hs)
        | exact he _
        | (rw [fidx_mE]; exact hk)
        | exact cMay0 d hf
        | exact mE_ids _
        | exact mE_at ha
        | (rw [fidx_mE]; exact hi)
        | exact mE_push _ _ _ _ _
        | exact mE_last _ _ _
        | exact mE_undef
        | exact get_undef2 ha
        | exact ids_undef ids_none)

theorem cRenT (d : Dv) (s t : ByteArray) (i : Nat) (f : Fi) (j k : Nat) (g : Fi) (hf : d.fuse ≠ 0) (hfu : d.fuse ≤ 9223372036854775807) (ht : (ByteArray.toList t == []) = false) (hst : (!(ByteArray.toList s == ByteArray.toList t)) = true) (hnl : d.nl = false) (hi : fat d.fs s = some i) (ha : d.fs[i]? = some (s, f)) (hj : fat d.fs t = some j) (hg : d.fs[j]? = some (t, g)) (hij : i ≠ j) (hu : 0 ≤ d.used - g.bs.length) (hm : d.used ≤ 9223372036854775807) (hs : fat (d.fs.eraseIdx j) s = some k) (he : ∀ x, (((mE d.fs).set i x).eraseIdx j).eraseIdx k = mE ((d.fs.eraseIdx j).eraseIdx k)) (hk : fat ((d.fs.eraseIdx j).eraseIdx k) t = none) : Contract Tryz.prog 33 [.ptr 0 0 0 0, .val (.string s), .val (.string t)] [d.box 1, d.map] (I 0) [some ((⟨d.room, d.used - g.bs.length, d.nl, (d.fs.eraseIdx j).eraseIdx k ++ [(t, ⟨f.bs, f.sure⟩)], d.fuse⟩ : Dv).went.box 1), some (⟨d.room, d.used - g.bs.length, d.nl, (d.fs.eraseIdx j).eraseIdx k ++ [(t, ⟨f.bs, f.sure⟩)], d.fuse⟩ : Dv).went.map] := by
  exact Contract.cast (by
    first
      | rfl) (by
    first
      | rfl) (cRenT_0 d s t i f j k g hf hfu ht hst hnl hi ha hj hg hij hu hm hs he hk )

end Go.Proofs.YtinfjnnffmlpmaaGreatDoor

/- a device: Files, Crash: rounds. -/
namespace Go.Proofs.YtinfjnnffmlpmaaGreatDoor
open E
set_option maxRecDepth 100000
set_option linter.unusedVariables false
set_option linter.unusedSimpArgs false

def fR (p : ByteArray × Fi) : List V := [.val (.string p.1), .sl 1 (p.2.bs.map bR), I p.2.sure]
def iR (n : Int) : List V := [I n]
def fiS (d : Dv) (ns : List ByteArray) (out : Fs) (i : Nat) : SL := ⟨[(0, .ptr 0 0 0 0), (3, .own 900), (10, .sl 1 (ns.map sR)), (11, I ns.length), (12, I i)], [(0, d.box 1), (1, d.map), (900, .arr 3 (out.map fR))], [0, 1, 900, 0, 1]⟩
def caS (d : Dv) (ps : List Int) (ns : List ByteArray) (i : Nat) : SL := ⟨[(0, .ptr 0 0 0 0), (1, .sl 1 (ps.map iR)), (14, .sl 1 (ns.map sR)), (15, I ns.length), (16, I i)], [(0, d.box 1), (1, d.map)], [0, 1, 0, 1]⟩
/-- How much of a file stays. -/
def crN (f : Fi) (p : Option Int) : Int := (match p with
  | some x => if (if Int.ofNat f.bs.length + -f.sure < x then Int.ofNat f.bs.length + -f.sure else x) > 0 then (if Int.ofNat f.bs.length + -f.sure < x then Int.ofNat f.bs.length + -f.sure else x) else 0
  | none => 0) + f.sure
def crD (d : Dv) (j : Nat) (s : ByteArray) (f : Fi) (n : Int) : Dv := ⟨d.room, d.used + (n - f.bs.length), d.nl, d.fs.set j (s, ⟨f.bs.take n.toNat, n⟩), d.fuse⟩
noncomputable def fiB : Code := codeAt Tryz.prog 16 [true, true, true, false, true, false, false]

theorem mE_cut {fs : Fs} {i : Nat} {s : ByteArray} {c : Inn} (bs : List UInt8) (n : Int) : (((mE fs).set i (s, c)).set i (s, Inn.box 1 (bs.map bR) [I n])) = mE (fs.set i (s, ⟨bs, n⟩)) := mE_set _ _
theorem crA {f : Fi} (h0 : 0 ≤ f.sure) (h1 : f.sure ≤ f.bs.length) (hl : f.bs.length ≤ 1000000000) : IntKind.i64.wrap (Int.ofNat (f.bs.map bR).length + -f.sure) = Int.ofNat f.bs.length + -f.sure := by
  rw [List.length_map]; exact i64_small (by simp only [Int.ofNat_eq_natCast]; omega)
theorem crB {f : Fi} {n x : Int} (hc : crN f (some x) = n) (h2 : 0 ≤ n) (h3 : n ≤ f.bs.length) (hl : f.bs.length ≤ 1000000000) :
    IntKind.i64.wrap ((if (if Int.ofNat f.bs.length + -f.sure < x then Int.ofNat f.bs.length + -f.sure else x) > 0 then (if Int.ofNat f.bs.length + -f.sure < x then Int.ofNat f.bs.length + -f.sure else x) else 0) + f.sure) = n := by
  rw [show (if (if Int.ofNat f.bs.length + -f.sure < x then Int.ofNat f.bs.length + -f.sure else x) > 0 then (if Int.ofNat f.bs.length + -f.sure < x then Int.ofNat f.bs.length + -f.sure else x) else 0) + f.sure = n from hc]
  exact i64_small (by omega)
theorem crB0 {f : Fi} {n : Int} (hc : crN f none = n) (h2 : 0 ≤ n) (h3 : n ≤ f.bs.length) (hl : f.bs.length ≤ 1000000000) : IntKind.i64.wrap (0 + f.sure) = n := by
  rw [show 0 + f.sure = n from hc]; exact i64_small (by omega)
theorem crC {f : Fi} {n : Int} (h2 : 0 ≤ n) (h3 : n ≤ f.bs.length) (hl : f.bs.length ≤ 1000000000) : IntKind.i64.wrap (n + -Int.ofNat (f.bs.map bR).length) = n + -Int.ofNat f.bs.length := by
  rw [List.length_map]; exact i64_small (by simp only [Int.ofNat_eq_natCast]; omega)
theorem crE {l : Nat} {n u : Int} (h2 : 0 ≤ n) (h3 : n ≤ l) (hu : l ≤ u) (hm : u ≤ 9223372036854775807) : CellC Tryz.prog 26 .i64 u (u + (n + -Int.ofNat l)) [.int .i64 (n + -Int.ofNat l)] (.int .i64 (u + (n + -Int.ofNat l))) :=
  addC (i64_small (by simp only [Int.ofNat_eq_natCast]; omega))
theorem crI {f : Fi} {n : Int} (h3 : n ≤ f.bs.length) : n.toNat ≤ (f.bs.map bR).length := by rw [List.length_map]; omega
theorem fiG_0 (d : Dv) (ns : List ByteArray) (out : Fs) (s : ByteArray) (f : Fi) (i j : Nat) (hx : ns[i]? = some s) (hi : i < ns.length) (hn : ns.length ≤ 1000000000) (hj : fat d.fs s = some j) (ha : d.fs[j]? = some (s, f)) (hl : f.bs.length ≤ 1000000000) (ho : out.length ≤ 1000000000) : CodeC Tryz.prog 2 38 fiB (fiS d ns out i) (Ex.normal) ({ env := [((0 : Nat), V.ptr (0 : Nat) (0 : Nat) (0 : Nat) (0 : Nat)), ((3 : Nat), V.own (900 : Nat)), ((10 : Nat), V.sl (1 : Nat) (List.map sR ns)), ((11 : Nat), I (Int.ofNat (List.length ns))), ((12 : Nat), I (Int.ofNat (i + (1 : Nat))))], st := [((0 : Nat), Obj.box [I (Dv.room d), I (Dv.used d), V.val (Value.int IntKind.u32 (bif Dv.nl d then (0 : Int) else (1 : Int))), V.val (Value.int IntKind.i32 (0 : Int)), V.val (Value.int IntKind.u32 (0 : Int)), V.mref (1 : Nat), I (Dv.fuse d)]), ((1 : Nat), Obj.nest (Nest.mp (Dv.nl d) (mE (Dv.fs d))) []), ((900 : Nat), Obj.arr (3 : Nat) (List.map fR (out ++ [(s, f)])))], ids := [(0 : Nat), (1 : Nat), (900 : Nat), (0 : Nat), (1 : Nat)] }) :=
  runP hmix [.reg 5 [(0, [], some true)], .reg 6 [(1, [.row (sR s)], none)], .reg 7 [(5, [.idx j, .inn (.box 1 (f.bs.map bR) [I f.sure])], none)], .reg 8 [(6, [.call [1406001] [] (.sl 1 (f.bs.map bR)) [some (.arr 1 (f.bs.map bR))]], none), (13, [.beO ((out ++ [(s, f)]).map fR)], none)], .reg 9 [(0, [.be (I ((i + 1 : Nat) : Int)), .shutM 1 j s 1406000 (mE d.fs)], none)]] ⟨[0, 3, 10, 11, 12], [(0, 0), (1, 1), (1614000, 900)], []⟩ [
      decide (Int.ofNat i < Int.ofNat (List.length ns)) = true,
      (0 : Int) ≤ Int.ofNat i,
      Int.ofNat i < Int.ofNat (List.length (List.map sR ns)),
      (List.map sR ns)[i]? = some (sR s),
      fidx (mE (Dv.fs d)) s = some j,
      (mE (Dv.fs d))[j]? = some (s, Inn.box (1 : Nat) (List.map bR (Fi.bs f)) [I (Fi.sure f)]),
      Contract Tryz.prog (39 : Nat) [V.own (0 : Nat)] [Obj.arr (1 : Nat) (List.map bR (Fi.bs f))] (V.sl (1 : Nat) (List.map bR (Fi.bs f))) [some (Obj.arr (1 : Nat) (List.map bR (Fi.bs f)))],
      (List.length (List.map fR out) + (1 : Nat)) * (48 : Nat) ≤ (140737488355328 : Nat),
      List.map fR out ++ [[Sg s, V.sl (1 : Nat) (List.map bR (Fi.bs f)), I (Fi.sure f)]] = List.map fR (out ++ [(s, f)]),
      IntKind.wrap IntKind.i64 (Int.ofNat (i + (1 : Nat))) = Int.ofNat (i + (1 : Nat)),
      (List.set (mE (Dv.fs d)) j (s, Inn.hole (V.ptr (1406000 : Nat) (0 : Nat) (0 : Nat) (0 : Nat))))[j]? = some (s, Inn.hole (V.ptr (1406000 : Nat) (0 : Nat) (0 : Nat) (0 : Nat))),
      List.set (List.set (mE (Dv.fs d)) j (s, Inn.hole (V.ptr (1406000 : Nat) (0 : Nat) (0 : Nat) (0 : Nat)))) j (s, Inn.box (1 : Nat) (List.map bR (Fi.bs f)) [I (Fi.sure f)]) = mE (Dv.fs d),
      ∀ (p0 : ByteArray × Inn), List.Mem p0 (mE (Dv.fs d)) → Inn.ids (Prod.snd p0) = []] (by kernel_rfl)
    (by
      simp only [allP]
      and_intros <;> first
        | exact cClone _ hl
        | (rw [fidx_mE]; exact hj)
        | exact mE_at ha
        | exact mE_get ha
        | exact mE_setback ha
        | exact mE_ids _
        | (rw [List.map_append]; rfl)
        | (simp [hx]; done)
        | exact i64_small (by simp; omega)
        | (simp; omega))

theorem fiG (d : Dv) (ns : List ByteArray) (out : Fs) (s : ByteArray) (f : Fi) (i j : Nat) (hx : ns[i]? = some s) (hi : i < ns.length) (hn : ns.length ≤ 1000000000) (hj : fat d.fs s = some j) (ha : d.fs[j]? = some (s, f)) (hl : f.bs.length ≤ 1000000000) (ho : out.length ≤ 1000000000)  : CodeC Tryz.prog 2 38 fiB (fiS d ns out i) .normal (fiS d ns (out ++ [(s, f)]) (i + 1)) := by
  exact CodeC.cast (by
    first
      | rfl) (fiG_0 d ns out s f i j hx hi hn hj ha hl ho )

theorem fiE_0 (d : Dv) (ns : List ByteArray) (out : Fs) (i : Nat) (h : ns.length ≤ i) : CodeC Tryz.prog 2 38 fiB (fiS d ns out i) (Ex.exit (0 : Nat)) ({ env := [((0 : Nat), V.ptr (0 : Nat) (0 : Nat) (0 : Nat) (0 : Nat)), ((3 : Nat), V.own (900 : Nat)), ((10 : Nat), V.sl (1 : Nat) (List.map sR ns)), ((11 : Nat), I (Int.ofNat (List.length ns))), ((12 : Nat), I (Int.ofNat i))], st := [((0 : Nat), Obj.box [I (Dv.room d), I (Dv.used d), V.val (Value.int IntKind.u32 (bif Dv.nl d then (0 : Int) else (1 : Int))), V.val (Value.int IntKind.i32 (0 : Int)), V.val (Value.int IntKind.u32 (0 : Int)), V.mref (1 : Nat), I (Dv.fuse d)]), ((1 : Nat), Obj.nest (Nest.mp (Dv.nl d) (mE (Dv.fs d))) []), ((900 : Nat), Obj.arr (3 : Nat) (List.map fR out))], ids := [(0 : Nat), (1 : Nat), (900 : Nat), (0 : Nat), (1 : Nat)] }) :=
  runP hmix [.reg 5 [(0, [], some false)]] ⟨[0, 3, 10, 11, 12], [(0, 0), (1, 1), (900, 900)], []⟩ [
      decide (Int.ofNat i < Int.ofNat (List.length ns)) = false] (by kernel_rfl)
    (by
      simp only [allP]
      and_intros <;> first
        | (simp; omega))

theorem fiE (d : Dv) (ns : List ByteArray) (out : Fs) (i : Nat) (h : ns.length ≤ i)  : CodeC Tryz.prog 2 38 fiB (fiS d ns out i) (.exit 0) (fiS d ns out i) := by
  exact CodeC.cast (by
    first
      | rfl) (fiE_0 d ns out i h )

end Go.Proofs.YtinfjnnffmlpmaaGreatDoor

/- a device: Files, Crash. -/
namespace Go.Proofs.YtinfjnnffmlpmaaGreatDoor
open E
set_option maxRecDepth 100000
set_option linter.unusedVariables false
set_option linter.unusedSimpArgs false

theorem cFilesA_0 (d : Dv) (ns : List ByteArray) (out : Fs) (hN : Contract Tryz.prog 38 [.ptr 0 0 0 0] [d.box 1, d.map] (.sl 1 (ns.map sR)) [some (d.box 1), some d.map]) (hL : LoopC Tryz.prog 2 38 fiB (fiS d ns [] 0) (.exit 0) (fiS d ns out ns.length)) : Contract Tryz.prog 16 [.ptr 0 0 0 0] [d.box 1, d.map] (V.sl (3 : Nat) (List.map fR out)) ([some (Obj.box [I (Dv.room d), I (Dv.used d), V.val (Value.int IntKind.u32 (bif Dv.nl d then (0 : Int) else (1 : Int))), V.val (Value.int IntKind.i32 (0 : Int)), V.val (Value.int IntKind.u32 (0 : Int)), V.mref (1 : Nat), I (Dv.fuse d)]), some (Obj.nest (Nest.mp (Dv.nl d) (mE (Dv.fs d))) [])]) :=
  vcP hmix [.reg 3 [(0, [.idx 3], none)], .reg 4 [(1, [.call [0, 1] [] (.sl 1 (ns.map sR)) [some (d.box 1), some d.map]], none)], .cut ⟨[0, 3, 10, 11, 12], [(0, 0), (1, 1), (601000, 900)], []⟩ (.exit 0) (fiS d ns out ns.length), .reg 10 [(1, [.idx 1], none)]] [] [
      Contract Tryz.prog (38 : Nat) [V.ptr (0 : Nat) (0 : Nat) (0 : Nat) (0 : Nat)] [Obj.box [I (Dv.room d), I (Dv.used d), V.val (Value.int IntKind.u32 (bif Dv.nl d then (0 : Int) else (1 : Int))), V.val (Value.int IntKind.i32 (0 : Int)), V.val (Value.int IntKind.u32 (0 : Int)), V.mref (1 : Nat), I (Dv.fuse d)], Obj.nest (Nest.mp (Dv.nl d) (mE (Dv.fs d))) []] (V.sl (1 : Nat) (List.map sR ns)) [some (Obj.box [I (Dv.room d), I (Dv.used d), V.val (Value.int IntKind.u32 (bif Dv.nl d then (0 : Int) else (1 : Int))), V.val (Value.int IntKind.i32 (0 : Int)), V.val (Value.int IntKind.u32 (0 : Int)), V.mref (1 : Nat), I (Dv.fuse d)]), some (Obj.nest (Nest.mp (Dv.nl d) (mE (Dv.fs d))) [])],
      LoopC Tryz.prog (2 : Nat) (38 : Nat) fiB { env := [((0 : Nat), V.ptr (0 : Nat) (0 : Nat) (0 : Nat) (0 : Nat)), ((3 : Nat), V.own (900 : Nat)), ((10 : Nat), V.sl (1 : Nat) (List.map sR ns)), ((11 : Nat), I (Int.ofNat (List.length (List.map sR ns)))), ((12 : Nat), I (0 : Int))], st := [((0 : Nat), Obj.box [I (Dv.room d), I (Dv.used d), V.val (Value.int IntKind.u32 (bif Dv.nl d then (0 : Int) else (1 : Int))), V.val (Value.int IntKind.i32 (0 : Int)), V.val (Value.int IntKind.u32 (0 : Int)), V.mref (1 : Nat), I (Dv.fuse d)]), ((1 : Nat), Obj.nest (Nest.mp (Dv.nl d) (mE (Dv.fs d))) []), ((900 : Nat), Obj.arr (3 : Nat) [])], ids := [(0 : Nat), (1 : Nat), (900 : Nat), (0 : Nat), (1 : Nat)] } (Ex.exit (0 : Nat)) { env := [((0 : Nat), V.ptr (0 : Nat) (0 : Nat) (0 : Nat) (0 : Nat)), ((3 : Nat), V.own (900 : Nat)), ((10 : Nat), V.sl (1 : Nat) (List.map sR ns)), ((11 : Nat), I (Int.ofNat (List.length ns))), ((12 : Nat), I (Int.ofNat (List.length ns)))], st := [((0 : Nat), Obj.box [I (Dv.room d), I (Dv.used d), V.val (Value.int IntKind.u32 (bif Dv.nl d then (0 : Int) else (1 : Int))), V.val (Value.int IntKind.i32 (0 : Int)), V.val (Value.int IntKind.u32 (0 : Int)), V.mref (1 : Nat), I (Dv.fuse d)]), ((1 : Nat), Obj.nest (Nest.mp (Dv.nl d) (mE (Dv.fs d))) []), ((900 : Nat), Obj.arr (3 : Nat) (List.map fR out))], ids := [(0 : Nat), (1 : Nat), (900 : Nat), (0 : Nat), (1 : Nat)] }] (by kernel_rfl)
    (by
      simp only [allP]
      and_intros <;> first
        | (rw [List.length_map]; exact hL)
        | exact hN)

theorem cFilesA (d : Dv) (ns : List ByteArray) (out : Fs) (hN : Contract Tryz.prog 38 [.ptr 0 0 0 0] [d.box 1, d.map] (.sl 1 (ns.map sR)) [some (d.box 1), some d.map]) (hL : LoopC Tryz.prog 2 38 fiB (fiS d ns [] 0) (.exit 0) (fiS d ns out ns.length)) : Contract Tryz.prog 16 [.ptr 0 0 0 0] [d.box 1, d.map] (.sl 3 (out.map fR)) [some (d.box 1), some d.map] := by
  exact Contract.cast (by
    first
      | rfl) (by
    first
      | rfl) (cFilesA_0 d ns out hN hL )

theorem cApp5_0 (d : Dv) (s : ByteArray) (b : List UInt8) (hf : d.fuse = 0) : Contract Tryz.prog 8 [.ptr 0 0 0 0, .val (.string s), .sl 1 (b.map bR)] [d.box 1, d.map] (I (5 : Int)) ([some (Obj.box [I (Dv.room d), I (Dv.used d), V.val (Value.int IntKind.u32 (bif Dv.nl d then (0 : Int) else (1 : Int))), V.val (Value.int IntKind.i32 (0 : Int)), V.val (Value.int IntKind.u32 (0 : Int)), V.mref (1 : Nat), I (Dv.fuse d)]), some (Obj.nest (Nest.mp (Dv.nl d) (mE (Dv.fs d))) [])]) :=
  vcP hmix [.reg 1 [(1, [.call [0, 1] [] (I 5) [some (d.box 1), some d.map]], none)]] [] [
      Contract Tryz.prog (22 : Nat) [V.ptr (0 : Nat) (0 : Nat) (0 : Nat) (0 : Nat)] [Obj.box [I (Dv.room d), I (Dv.used d), V.val (Value.int IntKind.u32 (bif Dv.nl d then (0 : Int) else (1 : Int))), V.val (Value.int IntKind.i32 (0 : Int)), V.val (Value.int IntKind.u32 (0 : Int)), V.mref (1 : Nat), I (Dv.fuse d)], Obj.nest (Nest.mp (Dv.nl d) (mE (Dv.fs d))) []] (I (5 : Int)) [some (Obj.box [I (Dv.room d), I (Dv.used d), V.val (Value.int IntKind.u32 (bif Dv.nl d then (0 : Int) else (1 : Int))), V.val (Value.int IntKind.i32 (0 : Int)), V.val (Value.int IntKind.u32 (0 : Int)), V.mref (1 : Nat), I (Dv.fuse d)]), some (Obj.nest (Nest.mp (Dv.nl d) (mE (Dv.fs d))) [])]] (by kernel_rfl)
    (by
      simp only [allP]
      and_intros <;> first
        | exact cMay5 d hf)

theorem cApp5 (d : Dv) (s : ByteArray) (b : List UInt8) (hf : d.fuse = 0) : Contract Tryz.prog 8 [.ptr 0 0 0 0, .val (.string s), .sl 1 (b.map bR)] [d.box 1, d.map] (I 5) [some (d.box 1), some d.map] := by
  exact Contract.cast (by
    first
      | rfl) (by
    first
      | rfl) (cApp5_0 d s b hf )

theorem cApp1_0 (d : Dv) (s : ByteArray) (b : List UInt8) (hf : d.fuse ≠ 0) (hs : (ByteArray.toList s == []) = true) : Contract Tryz.prog 8 [.ptr 0 0 0 0, .val (.string s), .sl 1 (b.map bR)] [d.box 1, d.map] (I (1 : Int)) ([some (Obj.box [I (Dv.room d), I (Dv.used d), V.val (Value.int IntKind.u32 (bif Dv.nl d then (0 : Int) else (1 : Int))), V.val (Value.int IntKind.i32 (0 : Int)), V.val (Value.int IntKind.u32 (0 : Int)), V.mref (1 : Nat), I (Dv.fuse d)]), some (Obj.nest (Nest.mp (Dv.nl d) (mE (Dv.fs d))) [])]) :=
  vcP hmix [.reg 1 [(1, [.call [0, 1] [] (I 0) [some (d.box 1), some d.map]], none)], .reg 4 [(1, [], some true)]] [] [
      Contract Tryz.prog (22 : Nat) [V.ptr (0 : Nat) (0 : Nat) (0 : Nat) (0 : Nat)] [Obj.box [I (Dv.room d), I (Dv.used d), V.val (Value.int IntKind.u32 (bif Dv.nl d then (0 : Int) else (1 : Int))), V.val (Value.int IntKind.i32 (0 : Int)), V.val (Value.int IntKind.u32 (0 : Int)), V.mref (1 : Nat), I (Dv.fuse d)], Obj.nest (Nest.mp (Dv.nl d) (mE (Dv.fs d))) []] (I (0 : Int)) [some (Obj.box [I (Dv.room d), I (Dv.used d), V.val (Value.int IntKind.u32 (bif Dv.nl d then (0 : Int) else (1 : Int))), V.val (Value.int IntKind.i32 (0 : Int)), V.val (Value.int IntKind.u32 (0 : Int)), V.mref (1 : Nat), I (Dv.fuse d)]), some (Obj.nest (Nest.mp (Dv.nl d) (mE (Dv.fs d))) [])],
      (ByteArray.toList s == []) = true] (by kernel_rfl)
    (by
      simp only [allP]
      and_intros <;> first
        | omega
        | exact cMay0 d hf)

theorem cApp1 (d : Dv) (s : ByteArray) (b : List UInt8) (hf : d.fuse ≠ 0) (hs : (ByteArray.toList s == []) = true) : Contract Tryz.prog 8 [.ptr 0 0 0 0, .val (.string s), .sl 1 (b.map bR)] [d.box 1, d.map] (I 1) [some (d.box 1), some d.map] := by
  exact Contract.cast (by
    first
      | rfl) (by
    first
      | rfl) (cApp1_0 d s b hf hs )

theorem cApp3_0 (d : Dv) (s : ByteArray) (b : List UInt8) (hf : d.fuse ≠ 0) (hs : (ByteArray.toList s == []) = false) (hb : d.room - d.used < (b.length : Int)) (hr : d.room ≤ 9223372036854775807) (h0 : 0 ≤ d.used) (h1 : d.used ≤ 1000000000) (h2 : 0 ≤ d.room) : Contract Tryz.prog 8 [.ptr 0 0 0 0, .val (.string s), .sl 1 (b.map bR)] [d.box 1, d.map] (I (3 : Int)) ([some (Obj.box [I (Dv.room d), I (Dv.used d), V.val (Value.int IntKind.u32 (bif Dv.nl d then (0 : Int) else (1 : Int))), V.val (Value.int IntKind.i32 (0 : Int)), V.val (Value.int IntKind.u32 (0 : Int)), V.mref (1 : Nat), I (Dv.fuse d)]), some (Obj.nest (Nest.mp (Dv.nl d) (mE (Dv.fs d))) [])]) :=
  vcP hmix [.reg 1 [(1, [.call [0, 1] [] (I 0) [some (d.box 1), some d.map]], none)], .reg 4 [(1, [], some false)], .reg 6 [(5, [.cst 0 0 (I d.room)], none), (7, [.call [0, 1] [] (I d.used) [some (d.box 1), some d.map]], none), (8, [.be (I (d.room - d.used))], none), (9, [], some true)]] [] [
      Contract Tryz.prog (22 : Nat) [V.ptr (0 : Nat) (0 : Nat) (0 : Nat) (0 : Nat)] [Obj.box [I (Dv.room d), I (Dv.used d), V.val (Value.int IntKind.u32 (bif Dv.nl d then (0 : Int) else (1 : Int))), V.val (Value.int IntKind.i32 (0 : Int)), V.val (Value.int IntKind.u32 (0 : Int)), V.mref (1 : Nat), I (Dv.fuse d)], Obj.nest (Nest.mp (Dv.nl d) (mE (Dv.fs d))) []] (I (0 : Int)) [some (Obj.box [I (Dv.room d), I (Dv.used d), V.val (Value.int IntKind.u32 (bif Dv.nl d then (0 : Int) else (1 : Int))), V.val (Value.int IntKind.i32 (0 : Int)), V.val (Value.int IntKind.u32 (0 : Int)), V.mref (1 : Nat), I (Dv.fuse d)]), some (Obj.nest (Nest.mp (Dv.nl d) (mE (Dv.fs d))) [])],
      (ByteArray.toList s == []) = false,
      cellIs (some (Obj.box [I (Dv.room d), I (Dv.used d), V.val (Value.int IntKind.u32 (bif Dv.nl d then (0 : Int) else (1 : Int))), V.val (Value.int IntKind.i32 (0 : Int)), V.val (Value.int IntKind.u32 (0 : Int)), V.mref (1 : Nat), I (Dv.fuse d)])) (0 : Nat) (I (Dv.room d)),
      Contract Tryz.prog (23 : Nat) [V.ptr (0 : Nat) (0 : Nat) (0 : Nat) (0 : Nat)] [Obj.box [I (Dv.room d), I (Dv.used d), V.val (Value.int IntKind.u32 (bif Dv.nl d then (0 : Int) else (1 : Int))), V.val (Value.int IntKind.i32 (0 : Int)), V.val (Value.int IntKind.u32 (0 : Int)), V.mref (1 : Nat), I (Dv.fuse d)], Obj.nest (Nest.mp (Dv.nl d) (mE (Dv.fs d))) []] (I (Dv.used d)) [some (Obj.box [I (Dv.room d), I (Dv.used d), V.val (Value.int IntKind.u32 (bif Dv.nl d then (0 : Int) else (1 : Int))), V.val (Value.int IntKind.i32 (0 : Int)), V.val (Value.int IntKind.u32 (0 : Int)), V.mref (1 : Nat), I (Dv.fuse d)]), some (Obj.nest (Nest.mp (Dv.nl d) (mE (Dv.fs d))) [])],
      cellIs (some (Obj.box [I (Dv.room d), I (Dv.used d), V.val (Value.int IntKind.u32 (bif Dv.nl d then (0 : Int) else (1 : Int))), V.val (Value.int IntKind.i32 (0 : Int)), V.val (Value.int IntKind.u32 (0 : Int)), V.mref (1 : Nat), I (Dv.fuse d)])) (0 : Nat) (I (Dv.room d)),
      IntKind.wrap IntKind.i64 (Dv.room d + -Dv.used d) = Dv.room d + -Dv.used d,
      decide (Int.ofNat (List.length (List.map bR b)) > Dv.room d + -Dv.used d) = true] (by kernel_rfl)
    (by
      simp only [allP]
      and_intros <;> first
        | omega
        | exact cMay0 d hf
        | exact cUsed d
        | rfl
        | exact i64_small (by omega)
        | (simp; omega))

theorem cApp3 (d : Dv) (s : ByteArray) (b : List UInt8) (hf : d.fuse ≠ 0) (hs : (ByteArray.toList s == []) = false) (hb : d.room - d.used < (b.length : Int)) (hr : d.room ≤ 9223372036854775807) (h0 : 0 ≤ d.used) (h1 : d.used ≤ 1000000000) (h2 : 0 ≤ d.room) : Contract Tryz.prog 8 [.ptr 0 0 0 0, .val (.string s), .sl 1 (b.map bR)] [d.box 1, d.map] (I 3) [some (d.box 1), some d.map] := by
  exact Contract.cast (by
    first
      | rfl) (by
    first
      | rfl) (cApp3_0 d s b hf hs hb hr h0 h1 h2 )

end Go.Proofs.YtinfjnnffmlpmaaGreatDoor

/- Strings in their order, and what is compared by several parts. -/
namespace Go.Proofs.YtinfjnnffmlpmaaGreatDoor
open E
set_option maxRecDepth 100000

theorem bytesLess_lt : ∀ (x y : List UInt8), Op.bytesLess x y = true ↔ x < y
  | x, [] => by cases x <;> simp [Op.bytesLess]
  | [], _ :: _ => by simp [Op.bytesLess]
  | a :: x, b :: y => by simp [Op.bytesLess, List.cons_lt_cons_iff, bytesLess_lt x y]

def ltS (s t : ByteArray) : Bool := Op.bytesLess s.toList t.toList
/-- How two texts stand to one another: -1, 0, 1. -/
def cmpS (s t : ByteArray) : Int := bif ltS s t then -1 else bif (!(ltS s t || s.toList == t.toList)) then 1 else 0
def orI (a b : Int) : Int := bif a != 0 then a else b

theorem toList_inj {s t : ByteArray} (h : s.toList = t.toList) : s = t := by
  rw [ByteArray.toList_eq, ByteArray.toList_eq] at h
  have : s.data = t.data := Array.toList_inj.1 h
  cases s; cases t; simp_all

theorem ltS_iff (s t : ByteArray) : ltS s t = true ↔ s.toList < t.toList := bytesLess_lt _ _
theorem ltS_irrefl (s : ByteArray) : ltS s s = false := by
  rw [Bool.eq_false_iff, ne_eq, ltS_iff]; exact List.lt_irrefl _
theorem ltS_trans {s t u : ByteArray} (h : ltS s t = true) (k : ltS t u = true) : ltS s u = true := by
  rw [ltS_iff] at h k ⊢; exact List.lt_trans h k
theorem ltS_total {s t : ByteArray} (h : ltS s t = false) (k : ltS t s = false) : s = t := by
  rw [Bool.eq_false_iff, ne_eq, ltS_iff] at h k
  exact toList_inj (List.le_antisymm (List.not_lt.1 k) (List.not_lt.1 h))
theorem ltS_asymm {s t : ByteArray} (h : ltS s t = true) : ltS t s = false := by
  cases k : ltS t s with
  | false => rfl
  | true => have := ltS_trans h k; rw [ltS_irrefl] at this; cases this

theorem cmpS_cases (s t : ByteArray) : (cmpS s t = -1 ∧ ltS s t = true) ∨ (cmpS s t = 0 ∧ s = t) ∨ (cmpS s t = 1 ∧ ltS t s = true) := by
  unfold cmpS
  cases h : ltS s t with
  | true => left; simp
  | false =>
    right
    by_cases e : s = t
    · left; subst e; simp
    · right
      have hne : (s.toList == t.toList) = false := by
        rw [beq_eq_false_iff_ne]; exact fun h => e (toList_inj h)
      refine ⟨by simp [hne], ?_⟩
      cases k : ltS t s with
      | true => rfl
      | false => exact absurd (ltS_total h k) e

theorem cmpS_self (s : ByteArray) : cmpS s s = 0 := by
  rcases cmpS_cases s s with ⟨_, h⟩ | ⟨h, _⟩ | ⟨_, h⟩
  · rw [ltS_irrefl] at h; cases h
  · exact h
  · rw [ltS_irrefl] at h; cases h
theorem cmpS_zero {s t : ByteArray} : cmpS s t = 0 ↔ s = t := by
  constructor
  · intro h
    rcases cmpS_cases s t with ⟨k, _⟩ | ⟨_, e⟩ | ⟨k, _⟩
    · omega
    · exact e
    · omega
  · rintro rfl; exact cmpS_self s
theorem cmpS_neg {s t : ByteArray} : cmpS s t < 0 ↔ ltS s t = true := by
  constructor
  · intro h
    rcases cmpS_cases s t with ⟨_, e⟩ | ⟨k, _⟩ | ⟨k, _⟩
    · exact e
    · omega
    · omega
  · intro h
    rcases cmpS_cases s t with ⟨k, _⟩ | ⟨_, e⟩ | ⟨_, k⟩
    · omega
    · subst e; rw [ltS_irrefl] at h; cases h
    · rw [ltS_asymm h] at k; cases k
theorem cmpS_flip (s t : ByteArray) : cmpS t s = - cmpS s t := by
  rcases cmpS_cases s t with ⟨k, e⟩ | ⟨k, e⟩ | ⟨k, e⟩
  · rcases cmpS_cases t s with ⟨k2, e2⟩ | ⟨k2, e2⟩ | ⟨k2, e2⟩
    · rw [ltS_asymm e] at e2; cases e2
    · subst e2; rw [ltS_irrefl] at e; cases e
    · omega
  · subst e; rw [k]; rfl
  · rcases cmpS_cases t s with ⟨k2, e2⟩ | ⟨k2, e2⟩ | ⟨k2, e2⟩
    · omega
    · subst e2; rw [ltS_irrefl] at e; cases e
    · rw [ltS_asymm e] at e2; cases e2

theorem ba_beq (s t : ByteArray) : (s == t) = true ↔ s = t := by
  cases s with | mk a => cases t with | mk b =>
  show (a == b) = true ↔ _
  simp
theorem ba_refl (s : ByteArray) : (s == s) = true := (ba_beq s s).2 rfl

def FNaN : List V → Option V := fun _ => some (Bo false)
def FCmp : List V → Option V
  | [.val (.string a), .val (.string b)] => some (I (cmpS a b))
  | _ => none
def FOr : List V → Option V
  | [.sl _ [[.val (.int _ a)], [.val (.int _ b)]]] => some (I (orI a b))
  | [.sl _ [[.val (.int _ a)], [.val (.int _ b)], [.val (.int _ c)]]] => some (I (orI a (orI b c)))
  | [.sl _ [[.val (.int _ a)], [.val (.int _ b)], [.val (.int _ c)], [.val (.int _ d)]]] => some (I (orI a (orI b (orI c d))))
  | _ => none
end Go.Proofs.YtinfjnnffmlpmaaGreatDoor

/- a device: what its functions do, as a whole. -/
namespace Go.Proofs.YtinfjnnffmlpmaaGreatDoor
open E
set_option maxRecDepth 100000
set_option linter.unusedVariables false
set_option linter.unusedSimpArgs false

/-! ### Files by name -/
def look (fs : Fs) (s : ByteArray) : Option Fi := (fs.find? fun p => s == p.1).map (·.2)
def put : Fs → ByteArray → Fi → Fs
  | [], s, f => [(s, f)]
  | p :: fs, s, f => if s == p.1 then (s, f) :: fs else p :: put fs s f
def del (fs : Fs) (s : ByteArray) : Fs := fs.filter fun p => !(s == p.1)
def tot : Fs → Nat
  | [] => 0
  | p :: fs => p.2.bs.length + tot fs
def Uniq (fs : Fs) : Prop := (fs.map (·.1)).Nodup

theorem look_nil (s : ByteArray) : look [] s = none := rfl
theorem look_cons (p : ByteArray × Fi) (fs : Fs) (s : ByteArray) : look (p :: fs) s = if s == p.1 then some p.2 else look fs s := by
  unfold look; rw [List.find?_cons]; cases s == p.1 <;> rfl
theorem fat_cons (p : ByteArray × Fi) (fs : Fs) (s : ByteArray) : fat (p :: fs) s = if s == p.1 then some 0 else (fat fs s).map (· + 1) := by
  unfold fat; rw [List.findIdx?_cons]

theorem fat_none {fs : Fs} {s : ByteArray} : fat fs s = none ↔ look fs s = none := by
  induction fs with
  | nil => simp [fat, look]
  | cons p fs ih => rw [fat_cons, look_cons]; split <;> simp [ih]
theorem fat_some {fs : Fs} {s : ByteArray} {i : Nat} (h : fat fs s = some i) : ∃ f, fs[i]? = some (s, f) ∧ look fs s = some f := by
  induction fs generalizing i with
  | nil => simp [fat] at h
  | cons p fs ih =>
    rw [fat_cons] at h; rw [look_cons]
    split at h
    · rename_i hb
      cases h
      rw [if_pos hb]
      exact ⟨p.2, by rw [eq_of_beq hb]; rfl, rfl⟩
    · rename_i hb
      rw [if_neg hb]
      cases hf : fat fs s with
      | none => rw [hf] at h; cases h
      | some k =>
        rw [hf] at h; cases h
        obtain ⟨f, h1, h2⟩ := ih hf
        exact ⟨f, by simpa using h1, h2⟩
theorem look_fat {fs : Fs} {s : ByteArray} {f : Fi} (h : look fs s = some f) : ∃ i, fat fs s = some i ∧ fs[i]? = some (s, f) := by
  cases hf : fat fs s with
  | none => rw [fat_none.1 hf] at h; cases h
  | some i =>
    obtain ⟨g, h1, h2⟩ := fat_some hf
    rw [h2] at h; cases h
    exact ⟨i, rfl, h1⟩
theorem look_mem {fs : Fs} {s : ByteArray} {f : Fi} (h : look fs s = some f) : (s, f) ∈ fs := by
  obtain ⟨i, _, h⟩ := look_fat h; exact List.mem_of_getElem? h
theorem look_key {fs : Fs} {s : ByteArray} : (look fs s).isSome = true ↔ s ∈ fs.map (·.1) := by
  induction fs with
  | nil => simp [look]
  | cons p fs ih =>
    rw [look_cons]
    by_cases h : s = p.1
    · subst h; simp
    · have : (s == p.1) = false := beq_eq_false_iff_ne.2 h
      simp [this, ih, h]
theorem Uniq.tail {p : ByteArray × Fi} {fs : Fs} (h : Uniq (p :: fs)) : Uniq fs := (List.nodup_cons.1 h).2
theorem Uniq.head {p : ByteArray × Fi} {fs : Fs} (h : Uniq (p :: fs)) : look fs p.1 = none := by
  have := (List.nodup_cons.1 h).1
  cases hl : look fs p.1 with
  | none => rfl
  | some f => exact absurd (look_key.1 (by rw [hl]; rfl)) this
theorem Uniq.mem {fs : Fs} (h : Uniq fs) {p : ByteArray × Fi} (hp : p ∈ fs) : look fs p.1 = some p.2 := by
  induction fs with
  | nil => simp at hp
  | cons q fs ih =>
    rw [look_cons]
    rcases List.mem_cons.1 hp with rfl | hp
    · simp
    · have : (p.1 == q.1) = false := by
        rw [beq_eq_false_iff_ne]
        intro e
        have := ih h.tail hp
        rw [e, h.head] at this; cases this
      rw [if_neg (by simp [this])]
      exact ih h.tail hp
theorem Uniq.idx {fs : Fs} (h : Uniq fs) {a b : Nat} {s : ByteArray} {f g : Fi} (ha : fs[a]? = some (s, f)) (hb : fs[b]? = some (s, g)) : a = b := by
  have h1 : (fs.map (·.1))[a]? = some s := by rw [List.getElem?_map, ha]; rfl
  have h2 : (fs.map (·.1))[b]? = some s := by rw [List.getElem?_map, hb]; rfl
  exact (List.getElem?_inj (List.getElem?_eq_some_iff.1 h1).1 h).1 (by rw [h1, h2])

theorem put_at {fs : Fs} {s : ByteArray} {i : Nat} {f : Fi} (h : fat fs s = some i) : put fs s f = fs.set i (s, f) := by
  induction fs generalizing i with
  | nil => simp [fat] at h
  | cons p fs ih =>
    rw [fat_cons] at h
    unfold put
    split at h
    · rename_i hb; cases h; rw [if_pos hb]; rfl
    · rename_i hb
      rw [if_neg hb]
      cases hf : fat fs s with
      | none => rw [hf] at h; cases h
      | some k => rw [hf] at h; cases h; rw [ih hf]; rfl
theorem put_new {fs : Fs} {s : ByteArray} {f : Fi} (h : look fs s = none) : put fs s f = fs ++ [(s, f)] := by
  induction fs with
  | nil => rfl
  | cons p fs ih =>
    rw [look_cons] at h
    unfold put
    split at h
    · cases h
    · rename_i hb; rw [if_neg hb, ih h]; rfl
theorem look_put (fs : Fs) (s : ByteArray) (f : Fi) (t : ByteArray) : look (put fs s f) t = if t = s then some f else look fs t := by
  induction fs with
  | nil => unfold put; rw [look_cons, look_nil]; by_cases h : t = s <;> simp [h]
  | cons p fs ih =>
    unfold put
    split
    · rename_i hb
      have hb := eq_of_beq hb
      rw [look_cons, look_cons]
      by_cases h : t = s
      · simp [h]
      · have h2 : ¬ (t == s) = true := by simpa using h
        have h3 : ¬ (t == p.1) = true := by rw [← hb]; exact h2
        simp only [if_neg h2, if_neg h3, if_neg h]
    · rename_i hb
      rw [look_cons, look_cons, ih]
      by_cases h : t = s
      · subst h; simp only [if_neg hb, if_pos rfl]
      · simp only [if_neg h]
theorem mem_put {fs : Fs} {s : ByteArray} {f : Fi} {p : ByteArray × Fi} (h : p ∈ put fs s f) : p = (s, f) ∨ p ∈ fs := by
  induction fs with
  | nil => simp [put] at h; exact .inl h
  | cons q fs ih =>
    unfold put at h
    split at h
    · rcases List.mem_cons.1 h with h | h
      · exact .inl h
      · exact .inr (by simp [h])
    · rcases List.mem_cons.1 h with h | h
      · exact .inr (by simp [h])
      · rcases ih h with h | h
        · exact .inl h
        · exact .inr (by simp [h])
theorem uniq_put {fs : Fs} {s : ByteArray} {f : Fi} (h : Uniq fs) : Uniq (put fs s f) := by
  induction fs with
  | nil => simp [put, Uniq]
  | cons p fs ih =>
    unfold put
    split
    · rename_i hb
      have hb := eq_of_beq hb
      unfold Uniq at h ⊢
      simp only [List.map_cons] at h ⊢
      rw [hb]; exact h
    · rename_i hb
      refine List.nodup_cons.2 ⟨fun hm => ?_, ih h.tail⟩
      have := look_key.2 hm
      rw [look_put] at this
      by_cases e : p.1 = s
      · exact hb (by rw [e]; simp)
      · rw [if_neg e, h.head] at this; cases this
def len (o : Option Fi) : Nat := match o with
  | some f => f.bs.length
  | none => 0
theorem tot_put (fs : Fs) (s : ByteArray) (f : Fi) : tot (put fs s f) + len (look fs s) = tot fs + f.bs.length := by
  induction fs with
  | nil => simp [put, tot, look, len]
  | cons p fs ih =>
    unfold put
    rw [look_cons]
    split
    · simp only [tot, len]; omega
    · simp only [tot]; omega
theorem tot_look {fs : Fs} {s : ByteArray} {f : Fi} (h : look fs s = some f) : f.bs.length ≤ tot fs := by
  have := tot_put fs s f
  have h0 : tot (put fs s ⟨[], 0⟩) + len (look fs s) = tot fs + 0 := tot_put fs s ⟨[], 0⟩
  rw [h, len] at h0
  omega
theorem length_put (fs : Fs) (s : ByteArray) (f : Fi) : (put fs s f).length = fs.length + (if (look fs s).isSome then 0 else 1) := by
  induction fs with
  | nil => simp [put, look]
  | cons p fs ih =>
    unfold put
    rw [look_cons]
    split
    · simp
    · simp only [List.length_cons, ih]; omega

theorem del_none {fs : Fs} {s : ByteArray} (h : look fs s = none) : del fs s = fs := by
  induction fs with
  | nil => rfl
  | cons p fs ih =>
    rw [look_cons] at h
    split at h
    · cases h
    · rename_i hb
      unfold del at ih ⊢
      rw [List.filter_cons_of_pos (by simpa using hb), ih h]
theorem del_at {fs : Fs} {s : ByteArray} {i : Nat} (hu : Uniq fs) (h : fat fs s = some i) : fs.eraseIdx i = del fs s := by
  induction fs generalizing i with
  | nil => simp [fat] at h
  | cons p fs ih =>
    rw [fat_cons] at h
    split at h
    · rename_i hb
      cases h
      have e := eq_of_beq hb
      have : del (p :: fs) s = del fs s := by unfold del; rw [List.filter_cons_of_neg (by simp [e])]
      rw [this, del_none (by rw [e]; exact hu.head)]
      rfl
    · rename_i hb
      cases hf : fat fs s with
      | none => rw [hf] at h; cases h
      | some k =>
        rw [hf] at h; cases h
        have : del (p :: fs) s = p :: del fs s := by unfold del; rw [List.filter_cons_of_pos (by simpa using hb)]
        rw [this, ← ih hu.tail hf]
        rfl
theorem look_del (fs : Fs) (s t : ByteArray) : look (del fs s) t = if t = s then none else look fs t := by
  induction fs with
  | nil => simp [del, look]
  | cons p fs ih =>
    rw [look_cons]
    by_cases hb : s = p.1
    · have : del (p :: fs) s = del fs s := by unfold del; rw [List.filter_cons_of_neg (by simp [hb])]
      rw [this, ih]
      by_cases h : t = s
      · simp [h]
      · have h3 : ¬ (t == p.1) = true := by rw [← hb]; simpa using h
        simp only [if_neg h, if_neg h3]
    · have : del (p :: fs) s = p :: del fs s := by unfold del; rw [List.filter_cons_of_pos (by simpa using hb)]
      rw [this, look_cons, ih]
      by_cases h : t = s
      · subst h; simp [hb]
      · simp only [if_neg h]
theorem mem_del {fs : Fs} {s : ByteArray} {p : ByteArray × Fi} (h : p ∈ del fs s) : p ∈ fs := (List.mem_filter.1 h).1
theorem uniq_del {fs : Fs} {s : ByteArray} (h : Uniq fs) : Uniq (del fs s) := h.sublist ((List.filter_sublist (l := fs)).map _)
theorem tot_del {fs : Fs} (hu : Uniq fs) (s : ByteArray) : tot (del fs s) + len (look fs s) = tot fs := by
  induction fs with
  | nil => simp [del, tot, look, len]
  | cons p fs ih =>
    rw [look_cons]
    by_cases hb : s = p.1
    · have e : del (p :: fs) s = fs := by
        unfold del
        rw [List.filter_cons_of_neg (by simp [hb])]
        exact del_none (by rw [hb]; exact hu.head)
      rw [e, if_pos (by simp [hb])]
      simp only [len, tot]; omega
    · have : del (p :: fs) s = p :: del fs s := by unfold del; rw [List.filter_cons_of_pos (by simpa using hb)]
      have ih := ih hu.tail
      rw [this, if_neg (by simpa using hb)]
      simp only [tot]; omega
theorem length_del (fs : Fs) (s : ByteArray) : (del fs s).length ≤ fs.length := List.length_filter_le ..
theorem tot_app (fs gs : Fs) : tot (fs ++ gs) = tot fs + tot gs := by
  induction fs with
  | nil => simp [tot]
  | cons p fs ih => simp only [List.cons_append, tot, ih]; omega

/-! ### Devices -/
structure Ok (d : Dv) : Prop where
  used : d.used = tot d.fs
  uniq : Uniq d.fs
  sure : ∀ p ∈ d.fs, 0 ≤ p.2.sure ∧ p.2.sure ≤ p.2.bs.length
  nl : d.nl = true → d.fs = []
  fuse : d.fuse ≤ 9223372036854775807
  room : 0 ≤ d.room ∧ d.room ≤ 9223372036854775807
  names : ∀ p ∈ d.fs, p.1.size ≤ maxLen
  tot : tot d.fs ≤ 1000000000
  few : d.fs.length ≤ 1000000000

theorem went_ok {d : Dv} (h : Ok d) : Ok d.went := by
  refine ⟨h.used, h.uniq, h.sure, h.nl, ?_, h.room, h.names, h.tot, h.few⟩
  have := h.fuse
  simp only [Dv.went]
  cases hd : decide (d.fuse > 0) with
  | true => simp only [cond_true]; omega
  | false => simp only [cond_false]; omega

def Dv.append (d : Dv) (s : ByteArray) (b : List UInt8) : Dv × Int :=
  if d.fuse = 0 then (d, 5) else if s.toList = [] then (d, 1) else if d.room - d.used < b.length then (d, 3) else
    ((⟨d.room, d.used + b.length, false, put d.fs s ⟨((look d.fs s).map (·.bs)).getD [] ++ b, ((look d.fs s).map (·.sure)).getD 0⟩, d.fuse⟩ : Dv).went, 0)
def Dv.sync (d : Dv) (s : ByteArray) : Dv × Int :=
  if d.fuse = 0 then (d, 5) else match look d.fs s with
    | some f => ((⟨d.room, d.used, d.nl, put d.fs s ⟨f.bs, f.bs.length⟩, d.fuse⟩ : Dv).went, 0)
    | none => (d, 4)
def Dv.delete (d : Dv) (s : ByteArray) : Dv × Int :=
  if d.fuse = 0 then (d, 5) else match look d.fs s with
    | some f => ((⟨d.room, d.used - f.bs.length, d.nl, del d.fs s, d.fuse⟩ : Dv).went, 0)
    | none => (d, 4)
def Dv.rename (d : Dv) (s t : ByteArray) : Dv × Int :=
  if d.fuse = 0 then (d, 5) else match look d.fs s with
    | some f => if t.toList = [] then (d, 1) else if s = t then (d.went, 0) else ((⟨d.room, d.used - len (look d.fs t), d.nl, del (del d.fs t) s ++ [(t, f)], d.fuse⟩ : Dv).went, 0)
    | none => (d, 4)

theorem nlB {s : ByteArray} (h : s.toList = []) : (ByteArray.toList s == []) = true := by rw [h]; rfl
theorem nlN {s : ByteArray} (h : ¬ s.toList = []) : (ByteArray.toList s == []) = false := by simpa using h

/-- A device whose map has one name, has another one. -/
theorem renMapD {f : FuncId} {args : List V} {d : Dv} {r : V} {d' : Dv} (n : Int) (hr : r = I n) (h : Contract Tryz.prog f args [d.box 1, d.map] r [some (d'.box 1), some d'.map]) :
    Contract Tryz.prog f args [d.box 1, d.map] r [some (d'.box 2), none, some d'.map] := by
  subst hr
  refine Contract.renMap (cells := d'.cells 1) (cells' := d'.cells 2) rfl h (fun _ _ h => by simpa only [I, V.rep] using h) (fun {w G τ τ' xs} h0 h2 h => ?_)
  revert h
  simp only [Dv.cells]
  match xs with
  | [a, b, c, e, f, g, h] =>
    simp only [repL, V.rep, V.repI, I, h2]
    exact id
  | [] | [_] | [_, _] | [_, _, _] | [_, _, _, _] | [_, _, _, _, _] | [_, _, _, _, _, _] => simp [repL]
  | _ :: _ :: _ :: _ :: _ :: _ :: _ :: _ :: _ => simp [repL]

theorem cAppend (d : Dv) (s : ByteArray) (b : List UInt8) (hk : Ok d) (hb : tot d.fs + b.length ≤ 1000000000) :
    Contract Tryz.prog 8 [.ptr 0 0 0 0, .val (.string s), .sl 1 (b.map bR)] [d.box 1, d.map] (I (d.append s b).2) [some ((d.append s b).1.box 2), none, some (d.append s b).1.map] := by
  have hu := hk.used
  have hr := hk.room
  have ht := hk.tot
  unfold Dv.append
  split
  · rename_i h0; exact renMapD _ rfl (cApp5 d s b h0)
  rename_i h0
  split
  · rename_i h1; exact renMapD _ rfl (cApp1 d s b h0 (nlB h1))
  rename_i h1
  split
  · rename_i h2; exact renMapD _ rfl (cApp3 d s b h0 (nlN h1) h2 (by omega) (by omega) (by omega) (by omega))
  rename_i h2
  cases hl : look d.fs s with
  | none =>
    rw [put_new hl]
    exact cAppB d s b h0 hk.fuse (nlN h1) (by omega) (by omega) (by omega) hk.nl (fat_none.2 hl) (by omega)
  | some f =>
    obtain ⟨i, h3, h4⟩ := look_fat hl
    rw [put_at h3]
    have := tot_look hl
    exact cAppA d s b i f h0 hk.fuse (nlN h1) (by omega) (by omega) (by omega) hk.nl h3 h4 (by omega)
theorem append_ok {d : Dv} {s : ByteArray} {b : List UInt8} (hk : Ok d) (hb : tot d.fs + b.length ≤ 1000000000) (hs : s.size ≤ maxLen) (hf : d.fs.length < 1000000000) : Ok (d.append s b).1 := by
  unfold Dv.append
  split
  · exact hk
  split
  · exact hk
  split
  · exact hk
  refine went_ok ⟨?_, uniq_put hk.uniq, fun p hp => ?_, fun h => by simp at h, hk.fuse, hk.room, fun p hp => ?_, ?_, ?_⟩
  · have h1 := tot_put d.fs s ⟨((look d.fs s).map (·.bs)).getD [] ++ b, ((look d.fs s).map (·.sure)).getD 0⟩
    have h2 := hk.used
    cases hl : look d.fs s with
    | none => rw [hl] at h1; simp only [hl, len, Option.map_none, Option.getD_none, List.nil_append] at h1 ⊢; omega
    | some f => rw [hl] at h1; simp only [hl, len, Option.map_some, Option.getD_some, List.length_append] at h1 ⊢; omega
  · rcases mem_put hp with rfl | hp
    · cases hl : look d.fs s with
      | none => simp
      | some f =>
        have := hk.sure _ (look_mem hl)
        simp only [Option.map_some, Option.getD_some, List.length_append] at this ⊢; omega
    · exact hk.sure p hp
  · rcases mem_put hp with rfl | hp
    · exact hs
    · exact hk.names p hp
  · have h1 := tot_put d.fs s ⟨((look d.fs s).map (·.bs)).getD [] ++ b, ((look d.fs s).map (·.sure)).getD 0⟩
    cases hl : look d.fs s with
    | none => rw [hl] at h1; simp only [hl, len, Option.map_none, Option.getD_none, List.nil_append] at h1 ⊢; omega
    | some f => rw [hl] at h1; simp only [hl, len, Option.map_some, Option.getD_some, List.length_append] at h1 ⊢; omega
  · have := length_put d.fs s ⟨((look d.fs s).map (·.bs)).getD [] ++ b, ((look d.fs s).map (·.sure)).getD 0⟩
    split at this <;> (simp only [] at this ⊢; omega)

theorem cSync (d : Dv) (s : ByteArray) (hk : Ok d) : Contract Tryz.prog 32 [.ptr 0 0 0 0, .val (.string s)] [d.box 1, d.map] (I (d.sync s).2) [some ((d.sync s).1.box 1), some (d.sync s).1.map] := by
  unfold Dv.sync
  split
  · rename_i h0; exact cSyncC d s h0
  rename_i h0
  cases hl : look d.fs s with
  | none => exact cSyncB d s h0 (fat_none.2 hl)
  | some f =>
    obtain ⟨i, h3, h4⟩ := look_fat hl
    simp only []
    rw [put_at h3]
    exact cSyncA d s i f h0 hk.fuse h3 h4
theorem sync_ok {d : Dv} {s : ByteArray} (hk : Ok d) : Ok (d.sync s).1 := by
  unfold Dv.sync
  split
  · exact hk
  cases hl : look d.fs s with
  | none => exact hk
  | some f =>
    have h1 := tot_put d.fs s ⟨f.bs, f.bs.length⟩
    rw [hl, len] at h1
    have h2 := length_put d.fs s ⟨f.bs, f.bs.length⟩
    rw [hl] at h2
    refine went_ok ⟨?_, uniq_put hk.uniq, fun p hp => ?_, fun h => ?_, hk.fuse, hk.room, fun p hp => ?_, ?_, ?_⟩
    · have := hk.used; simp only [] at h1 ⊢; omega
    · rcases mem_put hp with rfl | hp
      · simp
      · exact hk.sure p hp
    · have := hk.nl h; rw [this] at hl; simp [look] at hl
    · rcases mem_put hp with rfl | hp
      · exact hk.names (s, f) (look_mem hl)
      · exact hk.names p hp
    · have := hk.tot; simp only [] at h1 ⊢; omega
    · have := hk.few; simp only [Option.isSome_some, if_true] at h2 ⊢; omega

theorem cDelete (d : Dv) (s : ByteArray) (hk : Ok d) : Contract Tryz.prog 31 [.ptr 0 0 0 0, .val (.string s)] [d.box 1, d.map] (I (d.delete s).2) [some ((d.delete s).1.box 1), some (d.delete s).1.map] := by
  unfold Dv.delete
  split
  · rename_i h0; exact cDelC d s h0
  rename_i h0
  cases hl : look d.fs s with
  | none => exact cDelB d s h0 (fat_none.2 hl)
  | some f =>
    obtain ⟨i, h3, h4⟩ := look_fat hl
    have h5 := tot_look hl
    have h6 := hk.used
    have h7 := hk.tot
    simp only []
    rw [← del_at hk.uniq h3]
    exact cDelA d s i f h0 hk.fuse h3 h4 (by omega) (by omega)
theorem delete_ok {d : Dv} {s : ByteArray} (hk : Ok d) : Ok (d.delete s).1 := by
  unfold Dv.delete
  split
  · exact hk
  cases hl : look d.fs s with
  | none => exact hk
  | some f =>
    have h1 := tot_del hk.uniq s
    rw [hl, len] at h1
    refine went_ok ⟨?_, uniq_del hk.uniq, fun p hp => hk.sure p (mem_del hp), fun h => ?_, hk.fuse, hk.room, fun p hp => hk.names p (mem_del hp), ?_, Nat.le_trans (length_del _ _) hk.few⟩
    · have := hk.used; simp only [] at h1 ⊢; omega
    · have := hk.nl h; rw [this] at hl; simp [look] at hl
    · have := hk.tot; simp only [] at h1 ⊢; omega

theorem cRead (d : Dv) (s : ByteArray) (hk : Ok d) : Contract Tryz.prog 18 [.ptr 0 0 0 0, .val (.string s)] [d.box 1, d.map] (.tup [.sl 1 ((((look d.fs s).map (·.bs)).getD []).map bR), Bo (look d.fs s).isSome]) [some (d.box 1), some d.map] := by
  cases hl : look d.fs s with
  | none => exact cReadB d s (fat_none.2 hl)
  | some f =>
    obtain ⟨i, h3, h4⟩ := look_fat hl
    have h5 := tot_look hl
    have h7 := hk.tot
    exact cReadA d s i f h3 h4 (by omega)

theorem era2 {α : Type} {l : List α} {x : α} {i j : Nat} (hij : i ≠ j) : ((l.set i x).eraseIdx j).eraseIdx (if j < i then i - 1 else i) = (l.eraseIdx j).eraseIdx (if j < i then i - 1 else i) := by
  apply List.ext_getElem?
  intro q
  simp only [List.getElem?_eraseIdx, List.getElem?_set]
  split <;> split
  all_goals
    rename_i h1 h2
    first
    | (by_cases hq : q < j <;> simp only [hq, if_true, if_false] <;> rw [if_neg (by omega)])
    | (by_cases hq : q + 1 < j <;> simp only [hq, if_true, if_false] <;> rw [if_neg (by omega)])

theorem cRename (d : Dv) (s t : ByteArray) (hk : Ok d) : Contract Tryz.prog 33 [.ptr 0 0 0 0, .val (.string s), .val (.string t)] [d.box 1, d.map] (I (d.rename s t).2) [some ((d.rename s t).1.box 1), some (d.rename s t).1.map] := by
  unfold Dv.rename
  split
  · rename_i h0; exact cRenC d s t h0
  rename_i h0
  cases hl : look d.fs s with
  | none => exact cRenB d s t h0 (fat_none.2 hl)
  | some f =>
    obtain ⟨i, h3, h4⟩ := look_fat hl
    simp only []
    split
    · rename_i h1; exact cRenE d s t i f h0 (nlB h1) h3 h4
    rename_i h1
    split
    · rename_i h2; subst h2; exact cRenS d s i f h0 hk.fuse (nlN h1) h3 h4
    rename_i h2
    have hne : (!(ByteArray.toList s == ByteArray.toList t)) = true := by
      have : (ByteArray.toList s == ByteArray.toList t) = false := by rw [beq_eq_false_iff_ne]; exact fun h => h2 (toList_inj h)
      rw [this]; rfl
    have hnl : d.nl = false := by
      cases hn : d.nl with
      | false => rfl
      | true => have := hk.nl hn; rw [this] at hl; simp [look] at hl
    cases hlt : look d.fs t with
    | none =>
      have e1 : del (del d.fs t) s = d.fs.eraseIdx i := by rw [del_none hlt, del_at hk.uniq h3]
      rw [e1]
      have := cRenN d s t i f h0 hk.fuse (nlN h1) hne hnl h3 h4 (fat_none.2 hlt) (fat_none.2 (by rw [del_at hk.uniq h3, look_del, hlt]; simp))
      simpa only [len, Int.ofNat_zero, Int.sub_zero, Int.natCast_zero] using this
    | some g =>
      obtain ⟨j, h5, h6⟩ := look_fat hlt
      have h7 := tot_look hlt
      have h8 := hk.used
      have h9 := hk.tot
      have hij : i ≠ j := by
        intro e
        rw [e, h6] at h4
        simp only [Option.some.injEq, Prod.mk.injEq] at h4
        exact h2 h4.1.symm
      have e1 := del_at hk.uniq h5
      have u1 : Uniq (d.fs.eraseIdx j) := by rw [e1]; exact uniq_del hk.uniq
      have l1 : look (d.fs.eraseIdx j) s = some f := by rw [e1, look_del, if_neg h2, hl]
      obtain ⟨k, k1, k2⟩ := look_fat l1
      have hk' : k = if j < i then i - 1 else i := by
        refine u1.idx k2 (g := f) ?_
        rw [List.getElem?_eraseIdx]
        by_cases h : j < i
        · rw [if_pos h, if_neg (by omega), show i - 1 + 1 = i by omega]; exact h4
        · rw [if_neg h, if_pos (by omega)]; exact h4
      have e2 := del_at u1 k1
      have := cRenT d s t i f j k g h0 hk.fuse (nlN h1) hne hnl h3 h4 h5 h6 hij (by omega) (by omega) k1 (fun x => by rw [hk', era2 hij, mE_erase, mE_erase]) (fat_none.2 (by rw [e2, look_del, e1, look_del]; simp))
      rw [e2, e1] at this
      exact this
theorem rename_ok {d : Dv} {s t : ByteArray} (hk : Ok d) (hs : t.size ≤ maxLen) : Ok (d.rename s t).1 := by
  unfold Dv.rename
  split
  · exact hk
  cases hl : look d.fs s with
  | none => exact hk
  | some f =>
    simp only []
    split
    · exact hk
    split
    · exact went_ok hk
    rename_i h2
    have u1 : Uniq (del d.fs t) := uniq_del hk.uniq
    have u2 : Uniq (del (del d.fs t) s) := uniq_del u1
    have h1 := tot_del hk.uniq t
    have h3 := tot_del u1 s
    have h4 : look (del d.fs t) s = some f := by rw [look_del, if_neg h2, hl]
    rw [h4, len] at h3
    have hn : look (del (del d.fs t) s) t = none := by rw [look_del, look_del]; simp
    have e : del (del d.fs t) s ++ [(t, f)] = put (del (del d.fs t) s) t f := (put_new hn).symm
    have htot : tot (del (del d.fs t) s ++ [(t, f)]) = tot d.fs - len (look d.fs t) := by
      rw [tot_app]; simp only [tot]; omega
    have hle : len (look d.fs t) ≤ tot d.fs := by omega
    refine went_ok ⟨?_, by rw [e]; exact uniq_put u2, fun p hp => ?_, fun h => ?_, hk.fuse, hk.room, fun p hp => ?_, ?_, ?_⟩
    · have := hk.used; simp only [] at htot ⊢; rw [htot]; omega
    · rcases List.mem_append.1 hp with hp | hp
      · exact hk.sure p (mem_del (mem_del hp))
      · simp at hp; subst hp; exact hk.sure (s, f) (look_mem hl)
    · have := hk.nl h; rw [this] at hl; simp [look] at hl
    · rcases List.mem_append.1 hp with hp | hp
      · exact hk.names p (mem_del (mem_del hp))
      · simp at hp; subst hp; exact hs
    · have := hk.tot; simp only [] at htot ⊢; rw [htot]; omega
    · have := hk.few
      have h5 : (del (del d.fs t) s).length + 1 ≤ (del d.fs t).length := by
        obtain ⟨k, k1, k2⟩ := look_fat h4
        rw [← del_at u1 k1, List.length_eraseIdx]
        have := (List.getElem?_eq_some_iff.1 k2).1
        rw [if_pos this]; omega
      have h6 := length_del d.fs t
      simp only [List.length_append, List.length_singleton]; omega
end Go.Proofs.YtinfjnnffmlpmaaGreatDoor

/- a device: Files, Crash, as a whole. -/
namespace Go.Proofs.YtinfjnnffmlpmaaGreatDoor
open E
set_option maxRecDepth 100000
set_option linter.unusedVariables false
set_option linter.unusedSimpArgs false

theorem sortF_perm (fs : Fs) : (sortF fs).Perm fs := List.mergeSort_perm ..
theorem sortF_len (fs : Fs) : (sortF fs).length = fs.length := (sortF_perm fs).length_eq
theorem sortF_mem {fs : Fs} {p : ByteArray × Fi} : p ∈ sortF fs ↔ p ∈ fs := (sortF_perm fs).mem_iff
theorem sortF_uniq {fs : Fs} (h : Uniq fs) : Uniq (sortF fs) := ((sortF_perm fs).map _).symm.nodup h

theorem cNamesK (d : Dv) (hk : Ok d) : Contract Tryz.prog 38 [.ptr 0 0 0 0] [d.box 1, d.map] (.sl 1 ((namesF d.fs).map sR)) [some (d.box 1), some d.map] := cNames d hk.nl hk.few hk.names

theorem cFiles (d : Dv) (hk : Ok d) : Contract Tryz.prog 16 [.ptr 0 0 0 0] [d.box 1, d.map] (.sl 3 ((sortF d.fs).map fR)) [some (d.box 1), some d.map] := by
  refine cFilesA d (namesF d.fs) (sortF d.fs) (cNamesK d hk) ?_
  have hlen : (namesF d.fs).length = (sortF d.fs).length := by unfold namesF; simp
  have h := LoopC.pass (P := Tryz.prog) (k := 2) (n := 38) (c := fiB) (sortF d.fs) (fun i => fiS d (namesF d.fs) ((sortF d.fs).take i) i) (e := .exit 0) (by simp) (fun i x hx hi => ?_) (fiE d _ _ _ (by rw [hlen]; exact Nat.le_refl _))
  · rw [hlen]
    simpa only [List.take_zero, List.take_length] using h
  · have hm := sortF_mem.1 (List.mem_of_getElem? hx)
    have hl := hk.uniq.mem hm
    obtain ⟨j, h1, h2⟩ := look_fat hl
    have h3 := tot_look hl
    have h4 := hk.tot
    have h5 := hk.few
    have h6 := sortF_len d.fs
    have ht : (sortF d.fs).take (i + 1) = (sortF d.fs).take i ++ [x] := by rw [List.take_add_one, hx]; rfl
    show CodeC _ _ _ _ (fiS d (namesF d.fs) ((sortF d.fs).take i) i) _ (fiS d (namesF d.fs) ((sortF d.fs).take (i + 1)) (i + 1))
    rw [ht]
    exact fiG d (namesF d.fs) _ x.1 x.2 i j (by unfold namesF; rw [List.getElem?_map, hx]; rfl) (by omega) (by omega) h1 h2 (by omega) (by simp; omega)

end Go.Proofs.YtinfjnnffmlpmaaGreatDoor

/- a device is alive. -/
namespace Go.Proofs.YtinfjnnffmlpmaaGreatDoor
open E
set_option maxRecDepth 100000
set_option linter.unusedVariables false
set_option linter.unusedSimpArgs false

theorem cNewP (n : Int) (h : 0 < n) : Contract Tryz.prog 6 [I n] [] (.ptr 0 0 0 0) [some ((⟨n, 0, true, [], -1⟩ : Dv).box 1), some (⟨n, 0, true, [], -1⟩ : Dv).map] := by
  have := cNew n
  rwa [show newD n = ⟨n, 0, true, [], -1⟩ by unfold newD; rw [if_pos h]] at this
theorem newP_ok {n : Int} (h : 0 ≤ n) (h2 : n ≤ 9223372036854775807) : Ok ⟨n, 0, true, [], -1⟩ :=
  ⟨rfl, List.nodup_nil, fun p hp => by simp at hp, fun _ => rfl, (by decide : (-1 : Int) ≤ 9223372036854775807), ⟨h, h2⟩, fun p hp => by simp at hp, (by decide : (0 : Nat) ≤ 1000000000), (by decide : (0 : Nat) ≤ 1000000000)⟩
theorem appNew (n : Int) (s : ByteArray) (b : List UInt8) (hs : s.toList ≠ []) (hb : (b.length : Int) ≤ n) : (⟨n, 0, true, [], -1⟩ : Dv).append s b = (⟨n, b.length, false, [(s, ⟨b, 0⟩)], -1⟩, 0) := by
  unfold Dv.append
  rw [if_neg (by show ¬ ((-1 : Int) = 0); decide), if_neg hs, if_neg (by show ¬ (n - 0 < _); omega)]
  simp only [Dv.went, put, look, List.find?_nil, Option.map_none, Option.getD_none, List.nil_append, Int.zero_add]
  rfl
theorem appC {d : Dv} {s : ByteArray} {b : List UInt8} {d' : Dv} {e : Int} (h : d.append s b = (d', e)) (hk : Ok d) (hb : tot d.fs + b.length ≤ 1000000000) :
    Contract Tryz.prog 8 [.ptr 0 0 0 0, .val (.string s), .sl 1 (b.map bR)] [d.box 1, d.map] (I e) [some (d'.box 2), none, some d'.map] := by
  have := cAppend d s b hk hb
  rw [h] at this
  exact this
theorem readC {d : Dv} {s : ByteArray} {f : Fi} (h : look d.fs s = some f) (hk : Ok d) : Contract Tryz.prog 18 [.ptr 0 0 0 0, .val (.string s)] [d.box 1, d.map] (.tup [.sl 1 (f.bs.map bR), Bo true]) [some (d.box 1), some d.map] := by
  have := cRead d s hk
  rw [h] at this
  exact this
theorem sA_ne : (⟨#[97]⟩ : ByteArray).toList ≠ [] := by rw [ByteArray.toList_eq]; simp
theorem app_ok {d : Dv} {s : ByteArray} {b : List UInt8} {d' : Dv} {e : Int} (h : d.append s b = (d', e)) (hk : Ok d) (hb : tot d.fs + b.length ≤ 1000000000) (hs : s.size ≤ maxLen) (hf : d.fs.length < 1000000000) : Ok d' := by
  have := append_ok (b := b) (s := s) hk hb hs hf
  rw [h] at this
  exact this
theorem ba_eqB (l : List UInt8) : ((⟨l.toArray⟩ : ByteArray).toList == (⟨l.toArray⟩ : ByteArray).toList) = true := by simp
theorem cNum_0 (n : Int)  : Contract Tryz.prog 14 [I n] [] (I n) ([]) :=
  vcP hmix [] [] [
      ] (by kernel_rfl)
    trivial

theorem cNum (n : Int)  : Contract Tryz.prog 14 [I n] [] (I n) [] := by
  exact Contract.cast (by
    first
      | rfl) (by
    first
      | rfl) (cNum_0 n  )

end Go.Proofs.YtinfjnnffmlpmaaGreatDoor

/- a device with one file. -/
namespace Go.Proofs.YtinfjnnffmlpmaaGreatDoor
open E
set_option maxRecDepth 100000
set_option linter.unusedVariables false
set_option linter.unusedSimpArgs false

def one (R : Int) (u : Nat) (s : ByteArray) (bs : List UInt8) (sure : Int) (fuse : Int) : Dv := ⟨R, u, false, [(s, ⟨bs, sure⟩)], fuse⟩
theorem one_ok {R : Int} {u : Nat} {s : ByteArray} {bs : List UInt8} {sure fuse : Int} (hu : u = bs.length) (h0 : 0 ≤ sure) (h1 : sure ≤ u) (hb : u ≤ 1000000000) (hs : s.size ≤ maxLen) (hf : fuse ≤ 9223372036854775807) (hR : 0 ≤ R ∧ R ≤ 9223372036854775807) : Ok (one R u s bs sure fuse) := by
  subst hu
  refine ⟨by simp [one, tot], by simp [one, Uniq], fun p hp => ?_, fun h => by simp [one] at h, hf, hR, fun p hp => ?_, ?_, by simp [one]⟩
  · simp only [one, List.mem_singleton] at hp; subst hp; exact ⟨h0, h1⟩
  · simp only [one, List.mem_singleton] at hp; subst hp; exact hs
  · simpa [one, tot] using hb
theorem one_look {R : Int} {u : Nat} {s : ByteArray} {bs : List UInt8} {sure fuse : Int} : look (one R u s bs sure fuse).fs s = some ⟨bs, sure⟩ := by simp [one, look]
theorem one_app {R : Int} {u : Nat} {s : ByteArray} {bs : List UInt8} {sure : Int} (b : List UInt8) (hk : Ok (one R u s bs sure (-1))) (hs : s.toList ≠ []) (hb : (b.length : Int) ≤ R - u) (ht : u + b.length ≤ 1000000000) (hu : u = bs.length) :
    Contract Tryz.prog 8 [.ptr 0 0 0 0, .val (.string s), .sl 1 (b.map bR)] [(one R u s bs sure (-1)).box 1, (one R u s bs sure (-1)).map] (I 0) [some ((one R (u + b.length) s (bs ++ b) sure (-1)).box 2), none, some (one R (u + b.length) s (bs ++ b) sure (-1)).map] := by
  refine appC ?_ hk (by simp [one, tot]; omega)
  unfold Dv.append
  rw [if_neg (by show ¬ ((-1 : Int) = 0); decide), if_neg hs, if_neg (by show ¬ (R - (u : Int) < _); omega), one_look]
  simp [one, put, Dv.went]
theorem one_dead {R : Int} {u : Nat} {s : ByteArray} {bs : List UInt8} {sure : Int} (b : List UInt8) (hk : Ok (one R u s bs sure 0)) (ht : u + b.length ≤ 1000000000) (hu : u = bs.length) :
    Contract Tryz.prog 8 [.ptr 0 0 0 0, .val (.string s), .sl 1 (b.map bR)] [(one R u s bs sure 0).box 1, (one R u s bs sure 0).map] (I 5) [some ((one R u s bs sure 0).box 2), none, some (one R u s bs sure 0).map] := by
  refine appC ?_ hk (by simp [one, tot]; omega)
  unfold Dv.append
  rw [if_pos (by rfl)]
theorem one_sync {R : Int} {u : Nat} {s : ByteArray} {bs : List UInt8} {sure : Int} (hk : Ok (one R u s bs sure (-1))) (hu : u = bs.length) :
    Contract Tryz.prog 32 [.ptr 0 0 0 0, .val (.string s)] [(one R u s bs sure (-1)).box 1, (one R u s bs sure (-1)).map] (I 0) [some ((one R u s bs u (-1)).box 1), some (one R u s bs u (-1)).map] := by
  have := cSync _ s hk
  unfold Dv.sync at this
  rw [if_neg (by show ¬ ((-1 : Int) = 0); decide), one_look] at this
  simpa [one, put, Dv.went, ← hu] using this
theorem one_fuse (R : Int) (u : Nat) (s : ByteArray) (bs : List UInt8) (sure : Int) :
    Contract Tryz.prog 10 [.ptr 0 0 0 0, I 0] [(one R u s bs sure (-1)).box 1, (one R u s bs sure (-1)).map] (.tup []) [some ((one R u s bs sure 0).box 1), some (one R u s bs sure 0).map] := cFuse (one R u s bs sure (-1)) 0
theorem one_read {R : Int} {u : Nat} {s : ByteArray} {bs : List UInt8} {sure fuse : Int} (hk : Ok (one R u s bs sure fuse)) :
    Contract Tryz.prog 18 [.ptr 0 0 0 0, .val (.string s)] [(one R u s bs sure fuse).box 1, (one R u s bs sure fuse).map] (.tup [.sl 1 (bs.map bR), Bo true]) [some ((one R u s bs sure fuse).box 1), some (one R u s bs sure fuse).map] := readC one_look hk
theorem sortF_one (p : ByteArray × Fi) : sortF [p] = [p] := List.mergeSort_singleton ..
theorem one_files {R : Int} {u : Nat} {s : ByteArray} {bs : List UInt8} {sure fuse : Int} (hk : Ok (one R u s bs sure fuse)) :
    Contract Tryz.prog 16 [.ptr 0 0 0 0] [(one R u s bs sure fuse).box 1, (one R u s bs sure fuse).map] (.sl 3 [[.val (.string s), .sl 1 (bs.map bR), I sure]]) [some ((one R u s bs sure fuse).box 1), some (one R u s bs sure fuse).map] := by
  have := cFiles _ hk
  rwa [show sortF (one R u s bs sure fuse).fs = [(s, ⟨bs, sure⟩)] from sortF_one _] at this
theorem one_new (R : Int) (s : ByteArray) (b : List UInt8) (hs : s.toList ≠ []) (hb : (b.length : Int) ≤ R) (ht : b.length ≤ 1000000000) (h0 : 0 ≤ R) (h1 : R ≤ 9223372036854775807) :
    Contract Tryz.prog 8 [.ptr 0 0 0 0, .val (.string s), .sl 1 (b.map bR)] [(⟨R, 0, true, [], -1⟩ : Dv).box 1, (⟨R, 0, true, [], -1⟩ : Dv).map] (I 0) [some ((one R b.length s b 0 (-1)).box 2), none, some (one R b.length s b 0 (-1)).map] :=
  appC (appNew R s b hs hb) (newP_ok h0 h1) (by simpa [tot] using ht)
theorem renC {d : Dv} {s t : ByteArray} {d' : Dv} {e : Int} (h : d.rename s t = (d', e)) (hk : Ok d) :
    Contract Tryz.prog 33 [.ptr 0 0 0 0, .val (.string s), .val (.string t)] [d.box 1, d.map] (I e) [some (d'.box 1), some d'.map] := by
  have := cRename d s t hk
  rw [h] at this
  exact this
theorem strRows_bR (l : List UInt8) : l.map bR = strRows ⟨l.toArray⟩ := by simp [strRows, bR]
theorem ba_app (a b : List UInt8) : (⟨a.toArray⟩ : ByteArray) ++ ⟨b.toArray⟩ = ⟨(a ++ b).toArray⟩ := by
  apply ByteArray.ext
  simp
theorem ba_ne (b : UInt8) (l : List UInt8) : (⟨(b :: l).toArray⟩ : ByteArray).toList ≠ [] := by rw [ByteArray.toList_eq]; simp
end Go.Proofs.YtinfjnnffmlpmaaGreatDoor

/- strconv.Itoa, from 0 to 99: the contract of the kit, laid (by its own tools). -/
namespace Go.Proofs
open Go.Shelf
def Tryz.lays171_ren : Go.Shelf.Ren := ⟨fun | 171 => 48 | 243 => 57 | 246 => 65 | 283 => 85 | 284 => 86 | 285 => 87 | 286 => 88 | 129 => 84 | 317 => 102 | 318 => 103 | 319 => 104 | 320 => 105 | 337 => 107 | 338 => 108 | n => n, fun | 3 => 3 | 9 => 9 | 2 => 2 | 4 => 4 | 171 => 129 | 0 => 0 | 53 => 128 | 37 => 23 | 5 => 5 | 173 => 131 | 212 => 143 | 51 => 53 | 20 => 20 | 213 => 144 | 46 => 108 | 232 => 148 | 233 => 149 | n => n, fun | 17 => 0 | 18 => 1 | 19 => 2 | n => n⟩
theorem Tryz.lays171 : Go.Proofs.Lays.n171 Tryz.prog Tryz.lays171_ren := {
  mixed := by kernel_rfl
  f129 := Tryz.func84.trans (congrArg some (by kernel_rfl))
  f171 := Tryz.func48.trans (congrArg some (by kernel_rfl))
  f243 := Tryz.func57.trans (congrArg some (by kernel_rfl))
  f246 := Tryz.func65.trans (congrArg some (by kernel_rfl))
  f283 := Tryz.func85.trans (congrArg some (by kernel_rfl))
  f284 := Tryz.func86.trans (congrArg some (by kernel_rfl))
  f285 := Tryz.func87.trans (congrArg some (by kernel_rfl))
  f286 := Tryz.func88.trans (congrArg some (by kernel_rfl))
  f317 := Tryz.func102.trans (congrArg some (by kernel_rfl))
  f318 := Tryz.func103.trans (congrArg some (by kernel_rfl))
  f319 := Tryz.func104.trans (congrArg some (by kernel_rfl))
  f320 := Tryz.func105.trans (congrArg some (by kernel_rfl))
  f337 := Tryz.func107.trans (congrArg some (by kernel_rfl))
  f338 := Tryz.func108.trans (congrArg some (by kernel_rfl))
  t0 := Tryz.underlying0
  a0 := Tryz.isAgg0
  z0 := Tryz.sizeOf0
  v0 := Tryz.zeroValue0
  t2 := Tryz.underlying2
  a2 := Tryz.isAgg2
  z2 := Tryz.sizeOf2
  v2 := Tryz.zeroValue2
  t3 := Tryz.underlying3
  a3 := Tryz.isAgg3
  z3 := Tryz.sizeOf3
  v3 := Tryz.zeroValue3
  t4 := Tryz.underlying4
  a4 := Tryz.isAgg4
  z4 := Tryz.sizeOf4
  v4 := Tryz.zeroValue4
  t5 := Tryz.underlying5
  a5 := Tryz.isAgg5
  z5 := Tryz.sizeOf5
  v5 := Tryz.zeroValue5
  t9 := Tryz.underlying9
  a9 := Tryz.isAgg9
  z9 := Tryz.sizeOf9
  v9 := Tryz.zeroValue9
  t20 := Tryz.underlying20
  a20 := Tryz.isAgg20
  z20 := Tryz.sizeOf20
  v20 := Tryz.zeroValue20
  t37 := Tryz.underlying23
  a37 := Tryz.isAgg23
  z37 := Tryz.sizeOf23
  v37 := Tryz.zeroValue23
  t46 := Tryz.underlying108
  a46 := Tryz.isAgg108
  z46 := Tryz.sizeOf108
  v46 := Tryz.zeroValue108
  t51 := Tryz.underlying53
  a51 := Tryz.isAgg53
  z51 := Tryz.sizeOf53
  v51 := Tryz.zeroValue53
  t53 := Tryz.underlying128
  a53 := Tryz.isAgg128
  z53 := Tryz.sizeOf128
  v53 := Tryz.zeroValue128
  t171 := Tryz.underlying129
  a171 := Tryz.isAgg129
  z171 := Tryz.sizeOf129
  v171 := Tryz.zeroValue129
  t173 := Tryz.underlying131
  a173 := Tryz.isAgg131
  z173 := Tryz.sizeOf131
  v173 := Tryz.zeroValue131
  t212 := Tryz.underlying143
  a212 := Tryz.isAgg143
  z212 := Tryz.sizeOf143
  v212 := Tryz.zeroValue143
  t213 := Tryz.underlying144
  a213 := Tryz.isAgg144
  z213 := Tryz.sizeOf144
  t232 := Tryz.underlying148
  a232 := Tryz.isAgg148
  z232 := Tryz.sizeOf148
  v232 := Tryz.zeroValue148
  t233 := Tryz.underlying149
  a233 := Tryz.isAgg149
  z233 := Tryz.sizeOf149
  v233 := Tryz.zeroValue149
  g17 := by kernel_rfl
  g18 := by kernel_rfl
  g19 := by kernel_rfl }
open Go.RowKit Go.Sort Go.Lib in
theorem Tryz.strconv_Itoa_small (i : Nat) (hi : i < 100) (w : World) :
    Calls Tryz.prog 48 #[.int .i64 i] w fun e w' => e = .returned (.string ⟨(Lib.decDigits i).toArray⟩) ∧ w' = w := Any.strconv_Itoa_small Tryz.lays171 i hi w
end Go.Proofs

/- a whole file is put; names of small numbers. -/
namespace Go.Proofs.YtinfjnnffmlpmaaGreatDoor
open E
set_option maxRecDepth 100000
set_option linter.unusedVariables false
set_option linter.unusedSimpArgs false

/-- The name of what is not whole. -/
def tmpS : ByteArray := ⟨#[46, 116, 109, 112]⟩
def Dv.putA (e : Dv) (nm : ByteArray) (b : List UInt8) : Dv × Int :=
  if (e.append (nm ++ tmpS) b).2 ≠ 0 then e.append (nm ++ tmpS) b else
  if ((e.append (nm ++ tmpS) b).1.sync (nm ++ tmpS)).2 ≠ 0 then (e.append (nm ++ tmpS) b).1.sync (nm ++ tmpS) else
  ((e.append (nm ++ tmpS) b).1.sync (nm ++ tmpS)).1.rename (nm ++ tmpS) nm
def Dv.put (d : Dv) (nm : ByteArray) (b : List UInt8) : Dv × Int :=
  if (look d.fs (nm ++ tmpS)).isSome then (if (d.delete (nm ++ tmpS)).2 ≠ 0 then d.delete (nm ++ tmpS) else (d.delete (nm ++ tmpS)).1.putA nm b) else d.putA nm b
theorem cItoa (i : Nat) (hi : i < 100) : Contract Tryz.prog 48 [I (i : Int)] [] (.val (.string ⟨(Lib.decDigits i).toArray⟩)) [] := by
  refine ⟨⟨_, Tryz.func48, ne_of_beq_false (by kernel_rfl), by kernel_rfl⟩, fun w G X τ vals hm hX ha => ?_⟩
  have hv : vals = #[.int .i64 i] := by
    obtain ⟨l⟩ := vals
    match l, ha with
    | [p], ha =>
      simp only [repL, V.rep, V.repI, I, and_true] at ha
      rw [ha]
  subst hv
  refine Calls.mono (Tryz.strconv_Itoa_small i hi w) ?_
  rintro e w' ⟨rfl, rfl⟩
  exact ⟨_, G, τ, rfl, Ext.refl _ _ _ _, fun _ _ => rfl, by simp only [V.rep, V.repI], hm⟩
theorem decDigits_len (i : Nat) (hi : i < 100) : (Lib.decDigits i).length ≤ 2 := by
  by_cases h : i < 10
  · rw [Lib.decDigits_one h]; simp
  · rw [Lib.decDigits_two h hi]; simp
theorem szI {i : Nat} {p : ByteArray} (hi : i < 100) (hp : p.size ≤ 100) : p.size + (⟨(Lib.decDigits i).toArray⟩ : ByteArray).size ≤ 9223372036854775807 := by
  have := decDigits_len i hi
  simp only [ByteArray.size, List.size_toArray] at *
  omega
theorem szT {nm : ByteArray} (hz : nm.size ≤ 1000000) : nm.size + (⟨#[46, 116, 109, 112]⟩ : ByteArray).size ≤ 9223372036854775807 := by
  show nm.size + 4 ≤ _
  omega
theorem cNumbered_0 (p : ByteArray) (i : Nat) (hi : i < 100) (hp : p.size ≤ 100) : Contract Tryz.prog 40 [.val (.string p), I (i : Int)] [] (Sg { data := { toList := Array.toList (ByteArray.data p) ++ Lib.decDigits i } }) ([]) :=
  vcP hmix [.reg 1 [(1, [], some false)], .reg 3 [(2, [.call [] [] (.val (.string ⟨(Lib.decDigits i).toArray⟩)) []], none), (3, [.idx 0], none)]] [] [
      false = false,
      Contract Tryz.prog (48 : Nat) [I (Int.ofNat i)] [] (Sg { data := { toList := Lib.decDigits i } }) [],
      ByteArray.size p + ByteArray.size { data := { toList := Lib.decDigits i } } ≤ (9223372036854775807 : Nat)] (by kernel_rfl)
    (by
      simp only [allP]
      and_intros <;> first
        | exact cItoa i hi
        | exact szI hi hp
        | (simp; done))

theorem cNumbered (p : ByteArray) (i : Nat) (hi : i < 100) (hp : p.size ≤ 100) : Contract Tryz.prog 40 [.val (.string p), I (i : Int)] [] (.val (.string (p ++ ⟨(Lib.decDigits i).toArray⟩))) [] := by
  exact Contract.cast (by
    first
      | rfl) (by
    first
      | rfl) (cNumbered_0 p i hi hp )

theorem ptTd_0 (d d1 d2 d3 d4 : Dv) (nm t : ByteArray) (b bs : List UInt8) (e1 e2 e3 e4 : Int) (ht : nm ++ tmpS = t) (hz : nm.size ≤ 1000000) (h0 : Contract Tryz.prog 18 [.ptr 0 0 0 0, .val (.string t)] [d.box 1, d.map] (.tup [.sl 1 (bs.map bR), Bo true]) [some (d.box 1), some d.map]) (h1 : Contract Tryz.prog 31 [.ptr 0 0 0 0, .val (.string t)] [d.box 1, d.map] (I e1) [some (d1.box 1), some d1.map]) (n1 : e1 ≠ 0) : Contract Tryz.prog 12 [.ptr 0 0 0 0, .val (.string nm), .sl 1 (b.map bR)] [d.box 1, d.map] (I e1) ([some (Obj.box [I (Dv.room d1), I (Dv.used d1), V.val (Value.int IntKind.u32 (bif Dv.nl d1 then (0 : Int) else (1 : Int))), V.val (Value.int IntKind.i32 (0 : Int)), V.val (Value.int IntKind.u32 (0 : Int)), V.mref (1 : Nat), I (Dv.fuse d1)]), some (Obj.nest (Nest.mp (Dv.nl d1) (mE (Dv.fs d1))) [])]) :=
  vcP hmix [.reg 1 [(1, [.idx 0, .be (.val (.string t))], none)], .reg 2 [(2, [.call [0, 1] [] (.tup [.sl 1 (bs.map bR), Bo true]) [some (d.box 1), some d.map]], none)], .reg 4 [(2, [.call [0, 1] [] (I e1) [some (d1.box 1), some d1.map]], none)], .reg 5 [(1, [], some true)]] [] [
      ByteArray.size nm + (4 : Nat) ≤ (9223372036854775807 : Nat),
      { data := { toList := Array.toList (ByteArray.data nm) ++ [(46 : UInt8), (116 : UInt8), (109 : UInt8), (112 : UInt8)] } } = t,
      Contract Tryz.prog (18 : Nat) [V.ptr (0 : Nat) (0 : Nat) (0 : Nat) (0 : Nat), Sg t] [Obj.box [I (Dv.room d), I (Dv.used d), V.val (Value.int IntKind.u32 (bif Dv.nl d then (0 : Int) else (1 : Int))), V.val (Value.int IntKind.i32 (0 : Int)), V.val (Value.int IntKind.u32 (0 : Int)), V.mref (1 : Nat), I (Dv.fuse d)], Obj.nest (Nest.mp (Dv.nl d) (mE (Dv.fs d))) []] (V.tup [V.sl (1 : Nat) (List.map bR bs), Bo true]) [some (Obj.box [I (Dv.room d), I (Dv.used d), V.val (Value.int IntKind.u32 (bif Dv.nl d then (0 : Int) else (1 : Int))), V.val (Value.int IntKind.i32 (0 : Int)), V.val (Value.int IntKind.u32 (0 : Int)), V.mref (1 : Nat), I (Dv.fuse d)]), some (Obj.nest (Nest.mp (Dv.nl d) (mE (Dv.fs d))) [])],
      Contract Tryz.prog (31 : Nat) [V.ptr (0 : Nat) (0 : Nat) (0 : Nat) (0 : Nat), Sg t] [Obj.box [I (Dv.room d), I (Dv.used d), V.val (Value.int IntKind.u32 (bif Dv.nl d then (0 : Int) else (1 : Int))), V.val (Value.int IntKind.i32 (0 : Int)), V.val (Value.int IntKind.u32 (0 : Int)), V.mref (1 : Nat), I (Dv.fuse d)], Obj.nest (Nest.mp (Dv.nl d) (mE (Dv.fs d))) []] (I e1) [some (Obj.box [I (Dv.room d1), I (Dv.used d1), V.val (Value.int IntKind.u32 (bif Dv.nl d1 then (0 : Int) else (1 : Int))), V.val (Value.int IntKind.i32 (0 : Int)), V.val (Value.int IntKind.u32 (0 : Int)), V.mref (1 : Nat), I (Dv.fuse d1)]), some (Obj.nest (Nest.mp (Dv.nl d1) (mE (Dv.fs d1))) [])],
      (e1 != (0 : Int)) = true] (by kernel_rfl)
    (by
      simp only [allP]
      and_intros <;> first
        | omega
        | exact h0
        | exact h1
        | exact ht
        | (simp [n1]; done))

theorem ptTd (d d1 d2 d3 d4 : Dv) (nm t : ByteArray) (b bs : List UInt8) (e1 e2 e3 e4 : Int) (ht : nm ++ tmpS = t) (hz : nm.size ≤ 1000000) (h0 : Contract Tryz.prog 18 [.ptr 0 0 0 0, .val (.string t)] [d.box 1, d.map] (.tup [.sl 1 (bs.map bR), Bo true]) [some (d.box 1), some d.map]) (h1 : Contract Tryz.prog 31 [.ptr 0 0 0 0, .val (.string t)] [d.box 1, d.map] (I e1) [some (d1.box 1), some d1.map]) (n1 : e1 ≠ 0) : Contract Tryz.prog 12 [.ptr 0 0 0 0, .val (.string nm), .sl 1 (b.map bR)] [d.box 1, d.map] (I e1) [some (d1.box 1), some d1.map] := by
  exact Contract.cast (by
    first
      | rfl) (by
    first
      | rfl) (ptTd_0 d d1 d2 d3 d4 nm t b bs e1 e2 e3 e4 ht hz h0 h1 n1 )

theorem ptTa_0 (d d1 d2 d3 d4 : Dv) (nm t : ByteArray) (b bs : List UInt8) (e1 e2 e3 e4 : Int) (ht : nm ++ tmpS = t) (hz : nm.size ≤ 1000000) (h0 : Contract Tryz.prog 18 [.ptr 0 0 0 0, .val (.string t)] [d.box 1, d.map] (.tup [.sl 1 (bs.map bR), Bo true]) [some (d.box 1), some d.map]) (h1 : Contract Tryz.prog 31 [.ptr 0 0 0 0, .val (.string t)] [d.box 1, d.map] (I e1) [some (d1.box 1), some d1.map]) (n1 : e1 = 0) (h2 : Contract Tryz.prog 8 [.ptr 0 0 0 0, .val (.string t), .sl 1 (b.map bR)] [d1.box 1, d1.map] (I e2) [some (d2.box 2), none, some d2.map]) (n2 : e2 ≠ 0) : Contract Tryz.prog 12 [.ptr 0 0 0 0, .val (.string nm), .sl 1 (b.map bR)] [d.box 1, d.map] (I e2) ([some (Obj.box [I (Dv.room d2), I (Dv.used d2), V.val (Value.int IntKind.u32 (bif Dv.nl d2 then (0 : Int) else (1 : Int))), V.val (Value.int IntKind.i32 (0 : Int)), V.val (Value.int IntKind.u32 (0 : Int)), V.mref (2 : Nat), I (Dv.fuse d2)]), none, some (Obj.nest (Nest.mp (Dv.nl d2) (mE (Dv.fs d2))) [])]) :=
  vcP hmix [.reg 1 [(1, [.idx 0, .be (.val (.string t))], none)], .reg 2 [(2, [.call [0, 1] [] (.tup [.sl 1 (bs.map bR), Bo true]) [some (d.box 1), some d.map]], none)], .reg 4 [(2, [.call [0, 1] [] (I e1) [some (d1.box 1), some d1.map]], none)], .reg 5 [(1, [], some false)], .reg 7 [(3, [.call [0, 1] [] (I e2) [some (d2.box 2), none, some d2.map]], none)], .reg 8 [(1, [], some true)]] [1404001] [
      ByteArray.size nm + (4 : Nat) ≤ (9223372036854775807 : Nat),
      { data := { toList := Array.toList (ByteArray.data nm) ++ [(46 : UInt8), (116 : UInt8), (109 : UInt8), (112 : UInt8)] } } = t,
      Contract Tryz.prog (18 : Nat) [V.ptr (0 : Nat) (0 : Nat) (0 : Nat) (0 : Nat), Sg t] [Obj.box [I (Dv.room d), I (Dv.used d), V.val (Value.int IntKind.u32 (bif Dv.nl d then (0 : Int) else (1 : Int))), V.val (Value.int IntKind.i32 (0 : Int)), V.val (Value.int IntKind.u32 (0 : Int)), V.mref (1 : Nat), I (Dv.fuse d)], Obj.nest (Nest.mp (Dv.nl d) (mE (Dv.fs d))) []] (V.tup [V.sl (1 : Nat) (List.map bR bs), Bo true]) [some (Obj.box [I (Dv.room d), I (Dv.used d), V.val (Value.int IntKind.u32 (bif Dv.nl d then (0 : Int) else (1 : Int))), V.val (Value.int IntKind.i32 (0 : Int)), V.val (Value.int IntKind.u32 (0 : Int)), V.mref (1 : Nat), I (Dv.fuse d)]), some (Obj.nest (Nest.mp (Dv.nl d) (mE (Dv.fs d))) [])],
      Contract Tryz.prog (31 : Nat) [V.ptr (0 : Nat) (0 : Nat) (0 : Nat) (0 : Nat), Sg t] [Obj.box [I (Dv.room d), I (Dv.used d), V.val (Value.int IntKind.u32 (bif Dv.nl d then (0 : Int) else (1 : Int))), V.val (Value.int IntKind.i32 (0 : Int)), V.val (Value.int IntKind.u32 (0 : Int)), V.mref (1 : Nat), I (Dv.fuse d)], Obj.nest (Nest.mp (Dv.nl d) (mE (Dv.fs d))) []] (I e1) [some (Obj.box [I (Dv.room d1), I (Dv.used d1), V.val (Value.int IntKind.u32 (bif Dv.nl d1 then (0 : Int) else (1 : Int))), V.val (Value.int IntKind.i32 (0 : Int)), V.val (Value.int IntKind.u32 (0 : Int)), V.mref (1 : Nat), I (Dv.fuse d1)]), some (Obj.nest (Nest.mp (Dv.nl d1) (mE (Dv.fs d1))) [])],
      (e1 != (0 : Int)) = false,
      Contract Tryz.prog (8 : Nat) [V.ptr (0 : Nat) (0 : Nat) (0 : Nat) (0 : Nat), Sg t, V.sl (1 : Nat) (List.map bR b)] [Obj.box [I (Dv.room d1), I (Dv.used d1), V.val (Value.int IntKind.u32 (bif Dv.nl d1 then (0 : Int) else (1 : Int))), V.val (Value.int IntKind.i32 (0 : Int)), V.val (Value.int IntKind.u32 (0 : Int)), V.mref (1 : Nat), I (Dv.fuse d1)], Obj.nest (Nest.mp (Dv.nl d1) (mE (Dv.fs d1))) []] (I e2) [some (Obj.box [I (Dv.room d2), I (Dv.used d2), V.val (Value.int IntKind.u32 (bif Dv.nl d2 then (0 : Int) else (1 : Int))), V.val (Value.int IntKind.i32 (0 : Int)), V.val (Value.int IntKind.u32 (0 : Int)), V.mref (2 : Nat), I (Dv.fuse d2)]), none, some (Obj.nest (Nest.mp (Dv.nl d2) (mE (Dv.fs d2))) [])],
      (e2 != (0 : Int)) = true] (by kernel_rfl)
    (by
      simp only [allP]
      and_intros <;> first
        | omega
        | exact h0
        | exact h1
        | exact h2
        | exact ht
        | (simp [n1]; done)
        | (simp [n2]; done))

theorem ptTa (d d1 d2 d3 d4 : Dv) (nm t : ByteArray) (b bs : List UInt8) (e1 e2 e3 e4 : Int) (ht : nm ++ tmpS = t) (hz : nm.size ≤ 1000000) (h0 : Contract Tryz.prog 18 [.ptr 0 0 0 0, .val (.string t)] [d.box 1, d.map] (.tup [.sl 1 (bs.map bR), Bo true]) [some (d.box 1), some d.map]) (h1 : Contract Tryz.prog 31 [.ptr 0 0 0 0, .val (.string t)] [d.box 1, d.map] (I e1) [some (d1.box 1), some d1.map]) (n1 : e1 = 0) (h2 : Contract Tryz.prog 8 [.ptr 0 0 0 0, .val (.string t), .sl 1 (b.map bR)] [d1.box 1, d1.map] (I e2) [some (d2.box 2), none, some d2.map]) (n2 : e2 ≠ 0) : Contract Tryz.prog 12 [.ptr 0 0 0 0, .val (.string nm), .sl 1 (b.map bR)] [d.box 1, d.map] (I e2) [some (d2.box 2), none, some d2.map] := by
  exact Contract.cast (by
    first
      | rfl) (by
    first
      | rfl) (ptTa_0 d d1 d2 d3 d4 nm t b bs e1 e2 e3 e4 ht hz h0 h1 n1 h2 n2 )

theorem ptTs_0 (d d1 d2 d3 d4 : Dv) (nm t : ByteArray) (b bs : List UInt8) (e1 e2 e3 e4 : Int) (ht : nm ++ tmpS = t) (hz : nm.size ≤ 1000000) (h0 : Contract Tryz.prog 18 [.ptr 0 0 0 0, .val (.string t)] [d.box 1, d.map] (.tup [.sl 1 (bs.map bR), Bo true]) [some (d.box 1), some d.map]) (h1 : Contract Tryz.prog 31 [.ptr 0 0 0 0, .val (.string t)] [d.box 1, d.map] (I e1) [some (d1.box 1), some d1.map]) (n1 : e1 = 0) (h2 : Contract Tryz.prog 8 [.ptr 0 0 0 0, .val (.string t), .sl 1 (b.map bR)] [d1.box 1, d1.map] (I e2) [some (d2.box 2), none, some d2.map]) (n2 : e2 = 0) (h3 : Contract Tryz.prog 32 [.ptr 0 0 0 0, .val (.string t)] [d2.box 1, d2.map] (I e3) [some (d3.box 1), some d3.map]) (n3 : e3 ≠ 0) : Contract Tryz.prog 12 [.ptr 0 0 0 0, .val (.string nm), .sl 1 (b.map bR)] [d.box 1, d.map] (I e3) ([some (Obj.box [I (Dv.room d3), I (Dv.used d3), V.val (Value.int IntKind.u32 (bif Dv.nl d3 then (0 : Int) else (1 : Int))), V.val (Value.int IntKind.i32 (0 : Int)), V.val (Value.int IntKind.u32 (0 : Int)), V.mref (2 : Nat), I (Dv.fuse d3)]), none, some (Obj.nest (Nest.mp (Dv.nl d3) (mE (Dv.fs d3))) [])]) :=
  vcP hmix [.reg 1 [(1, [.idx 0, .be (.val (.string t))], none)], .reg 2 [(2, [.call [0, 1] [] (.tup [.sl 1 (bs.map bR), Bo true]) [some (d.box 1), some d.map]], none)], .reg 4 [(2, [.call [0, 1] [] (I e1) [some (d1.box 1), some d1.map]], none)], .reg 5 [(1, [], some false)], .reg 7 [(3, [.call [0, 1] [] (I e2) [some (d2.box 2), none, some d2.map]], none)], .reg 8 [(1, [], some false)], .reg 10 [(2, [.call [0, 1404001] [] (I e3) [some (d3.box 1), some d3.map]], none)], .reg 11 [(1, [], some true)]] [1404001] [
      ByteArray.size nm + (4 : Nat) ≤ (9223372036854775807 : Nat),
      { data := { toList := Array.toList (ByteArray.data nm) ++ [(46 : UInt8), (116 : UInt8), (109 : UInt8), (112 : UInt8)] } } = t,
      Contract Tryz.prog (18 : Nat) [V.ptr (0 : Nat) (0 : Nat) (0 : Nat) (0 : Nat), Sg t] [Obj.box [I (Dv.room d), I (Dv.used d), V.val (Value.int IntKind.u32 (bif Dv.nl d then (0 : Int) else (1 : Int))), V.val (Value.int IntKind.i32 (0 : Int)), V.val (Value.int IntKind.u32 (0 : Int)), V.mref (1 : Nat), I (Dv.fuse d)], Obj.nest (Nest.mp (Dv.nl d) (mE (Dv.fs d))) []] (V.tup [V.sl (1 : Nat) (List.map bR bs), Bo true]) [some (Obj.box [I (Dv.room d), I (Dv.used d), V.val (Value.int IntKind.u32 (bif Dv.nl d then (0 : Int) else (1 : Int))), V.val (Value.int IntKind.i32 (0 : Int)), V.val (Value.int IntKind.u32 (0 : Int)), V.mref (1 : Nat), I (Dv.fuse d)]), some (Obj.nest (Nest.mp (Dv.nl d) (mE (Dv.fs d))) [])],
      Contract Tryz.prog (31 : Nat) [V.ptr (0 : Nat) (0 : Nat) (0 : Nat) (0 : Nat), Sg t] [Obj.box [I (Dv.room d), I (Dv.used d), V.val (Value.int IntKind.u32 (bif Dv.nl d then (0 : Int) else (1 : Int))), V.val (Value.int IntKind.i32 (0 : Int)), V.val (Value.int IntKind.u32 (0 : Int)), V.mref (1 : Nat), I (Dv.fuse d)], Obj.nest (Nest.mp (Dv.nl d) (mE (Dv.fs d))) []] (I e1) [some (Obj.box [I (Dv.room d1), I (Dv.used d1), V.val (Value.int IntKind.u32 (bif Dv.nl d1 then (0 : Int) else (1 : Int))), V.val (Value.int IntKind.i32 (0 : Int)), V.val (Value.int IntKind.u32 (0 : Int)), V.mref (1 : Nat), I (Dv.fuse d1)]), some (Obj.nest (Nest.mp (Dv.nl d1) (mE (Dv.fs d1))) [])],
      (e1 != (0 : Int)) = false,
      Contract Tryz.prog (8 : Nat) [V.ptr (0 : Nat) (0 : Nat) (0 : Nat) (0 : Nat), Sg t, V.sl (1 : Nat) (List.map bR b)] [Obj.box [I (Dv.room d1), I (Dv.used d1), V.val (Value.int IntKind.u32 (bif Dv.nl d1 then (0 : Int) else (1 : Int))), V.val (Value.int IntKind.i32 (0 : Int)), V.val (Value.int IntKind.u32 (0 : Int)), V.mref (1 : Nat), I (Dv.fuse d1)], Obj.nest (Nest.mp (Dv.nl d1) (mE (Dv.fs d1))) []] (I e2) [some (Obj.box [I (Dv.room d2), I (Dv.used d2), V.val (Value.int IntKind.u32 (bif Dv.nl d2 then (0 : Int) else (1 : Int))), V.val (Value.int IntKind.i32 (0 : Int)), V.val (Value.int IntKind.u32 (0 : Int)), V.mref (2 : Nat), I (Dv.fuse d2)]), none, some (Obj.nest (Nest.mp (Dv.nl d2) (mE (Dv.fs d2))) [])],
      (e2 != (0 : Int)) = false,
      Contract Tryz.prog (32 : Nat) [V.ptr (0 : Nat) (0 : Nat) (0 : Nat) (0 : Nat), Sg t] [Obj.box [I (Dv.room d2), I (Dv.used d2), V.val (Value.int IntKind.u32 (bif Dv.nl d2 then (0 : Int) else (1 : Int))), V.val (Value.int IntKind.i32 (0 : Int)), V.val (Value.int IntKind.u32 (0 : Int)), V.mref (1 : Nat), I (Dv.fuse d2)], Obj.nest (Nest.mp (Dv.nl d2) (mE (Dv.fs d2))) []] (I e3) [some (Obj.box [I (Dv.room d3), I (Dv.used d3), V.val (Value.int IntKind.u32 (bif Dv.nl d3 then (0 : Int) else (1 : Int))), V.val (Value.int IntKind.i32 (0 : Int)), V.val (Value.int IntKind.u32 (0 : Int)), V.mref (1 : Nat), I (Dv.fuse d3)]), some (Obj.nest (Nest.mp (Dv.nl d3) (mE (Dv.fs d3))) [])],
      (e3 != (0 : Int)) = true] (by kernel_rfl)
    (by
      simp only [allP]
      and_intros <;> first
        | omega
        | exact h0
        | exact h1
        | exact h2
        | exact h3
        | exact ht
        | (simp [n1]; done)
        | (simp [n2]; done)
        | (simp [n3]; done))

theorem ptTs (d d1 d2 d3 d4 : Dv) (nm t : ByteArray) (b bs : List UInt8) (e1 e2 e3 e4 : Int) (ht : nm ++ tmpS = t) (hz : nm.size ≤ 1000000) (h0 : Contract Tryz.prog 18 [.ptr 0 0 0 0, .val (.string t)] [d.box 1, d.map] (.tup [.sl 1 (bs.map bR), Bo true]) [some (d.box 1), some d.map]) (h1 : Contract Tryz.prog 31 [.ptr 0 0 0 0, .val (.string t)] [d.box 1, d.map] (I e1) [some (d1.box 1), some d1.map]) (n1 : e1 = 0) (h2 : Contract Tryz.prog 8 [.ptr 0 0 0 0, .val (.string t), .sl 1 (b.map bR)] [d1.box 1, d1.map] (I e2) [some (d2.box 2), none, some d2.map]) (n2 : e2 = 0) (h3 : Contract Tryz.prog 32 [.ptr 0 0 0 0, .val (.string t)] [d2.box 1, d2.map] (I e3) [some (d3.box 1), some d3.map]) (n3 : e3 ≠ 0) : Contract Tryz.prog 12 [.ptr 0 0 0 0, .val (.string nm), .sl 1 (b.map bR)] [d.box 1, d.map] (I e3) [some (d3.box 2), none, some d3.map] := by
  exact Contract.cast (by
    first
      | rfl) (by
    first
      | rfl) (ptTs_0 d d1 d2 d3 d4 nm t b bs e1 e2 e3 e4 ht hz h0 h1 n1 h2 n2 h3 n3 )

theorem ptTr_0 (d d1 d2 d3 d4 : Dv) (nm t : ByteArray) (b bs : List UInt8) (e1 e2 e3 e4 : Int) (ht : nm ++ tmpS = t) (hz : nm.size ≤ 1000000) (h0 : Contract Tryz.prog 18 [.ptr 0 0 0 0, .val (.string t)] [d.box 1, d.map] (.tup [.sl 1 (bs.map bR), Bo true]) [some (d.box 1), some d.map]) (h1 : Contract Tryz.prog 31 [.ptr 0 0 0 0, .val (.string t)] [d.box 1, d.map] (I e1) [some (d1.box 1), some d1.map]) (n1 : e1 = 0) (h2 : Contract Tryz.prog 8 [.ptr 0 0 0 0, .val (.string t), .sl 1 (b.map bR)] [d1.box 1, d1.map] (I e2) [some (d2.box 2), none, some d2.map]) (n2 : e2 = 0) (h3 : Contract Tryz.prog 32 [.ptr 0 0 0 0, .val (.string t)] [d2.box 1, d2.map] (I e3) [some (d3.box 1), some d3.map]) (n3 : e3 = 0) (h4 : Contract Tryz.prog 33 [.ptr 0 0 0 0, .val (.string t), .val (.string nm)] [d3.box 1, d3.map] (I e4) [some (d4.box 1), some d4.map]) : Contract Tryz.prog 12 [.ptr 0 0 0 0, .val (.string nm), .sl 1 (b.map bR)] [d.box 1, d.map] (I e4) ([some (Obj.box [I (Dv.room d4), I (Dv.used d4), V.val (Value.int IntKind.u32 (bif Dv.nl d4 then (0 : Int) else (1 : Int))), V.val (Value.int IntKind.i32 (0 : Int)), V.val (Value.int IntKind.u32 (0 : Int)), V.mref (2 : Nat), I (Dv.fuse d4)]), none, some (Obj.nest (Nest.mp (Dv.nl d4) (mE (Dv.fs d4))) [])]) :=
  vcP hmix [.reg 1 [(1, [.idx 0, .be (.val (.string t))], none)], .reg 2 [(2, [.call [0, 1] [] (.tup [.sl 1 (bs.map bR), Bo true]) [some (d.box 1), some d.map]], none)], .reg 4 [(2, [.call [0, 1] [] (I e1) [some (d1.box 1), some d1.map]], none)], .reg 5 [(1, [], some false)], .reg 7 [(3, [.call [0, 1] [] (I e2) [some (d2.box 2), none, some d2.map]], none)], .reg 8 [(1, [], some false)], .reg 10 [(2, [.call [0, 1404001] [] (I e3) [some (d3.box 1), some d3.map]], none)], .reg 11 [(1, [], some false)], .reg 13 [(3, [.call [0, 1404001] [] (I e4) [some (d4.box 1), some d4.map]], none)]] [1404001] [
      ByteArray.size nm + (4 : Nat) ≤ (9223372036854775807 : Nat),
      { data := { toList := Array.toList (ByteArray.data nm) ++ [(46 : UInt8), (116 : UInt8), (109 : UInt8), (112 : UInt8)] } } = t,
      Contract Tryz.prog (18 : Nat) [V.ptr (0 : Nat) (0 : Nat) (0 : Nat) (0 : Nat), Sg t] [Obj.box [I (Dv.room d), I (Dv.used d), V.val (Value.int IntKind.u32 (bif Dv.nl d then (0 : Int) else (1 : Int))), V.val (Value.int IntKind.i32 (0 : Int)), V.val (Value.int IntKind.u32 (0 : Int)), V.mref (1 : Nat), I (Dv.fuse d)], Obj.nest (Nest.mp (Dv.nl d) (mE (Dv.fs d))) []] (V.tup [V.sl (1 : Nat) (List.map bR bs), Bo true]) [some (Obj.box [I (Dv.room d), I (Dv.used d), V.val (Value.int IntKind.u32 (bif Dv.nl d then (0 : Int) else (1 : Int))), V.val (Value.int IntKind.i32 (0 : Int)), V.val (Value.int IntKind.u32 (0 : Int)), V.mref (1 : Nat), I (Dv.fuse d)]), some (Obj.nest (Nest.mp (Dv.nl d) (mE (Dv.fs d))) [])],
      Contract Tryz.prog (31 : Nat) [V.ptr (0 : Nat) (0 : Nat) (0 : Nat) (0 : Nat), Sg t] [Obj.box [I (Dv.room d), I (Dv.used d), V.val (Value.int IntKind.u32 (bif Dv.nl d then (0 : Int) else (1 : Int))), V.val (Value.int IntKind.i32 (0 : Int)), V.val (Value.int IntKind.u32 (0 : Int)), V.mref (1 : Nat), I (Dv.fuse d)], Obj.nest (Nest.mp (Dv.nl d) (mE (Dv.fs d))) []] (I e1) [some (Obj.box [I (Dv.room d1), I (Dv.used d1), V.val (Value.int IntKind.u32 (bif Dv.nl d1 then (0 : Int) else (1 : Int))), V.val (Value.int IntKind.i32 (0 : Int)), V.val (Value.int IntKind.u32 (0 : Int)), V.mref (1 : Nat), I (Dv.fuse d1)]), some (Obj.nest (Nest.mp (Dv.nl d1) (mE (Dv.fs d1))) [])],
      (e1 != (0 : Int)) = false,
      Contract Tryz.prog (8 : Nat) [V.ptr (0 : Nat) (0 : Nat) (0 : Nat) (0 : Nat), Sg t, V.sl (1 : Nat) (List.map bR b)] [Obj.box [I (Dv.room d1), I (Dv.used d1), V.val (Value.int IntKind.u32 (bif Dv.nl d1 then (0 : Int) else (1 : Int))), V.val (Value.int IntKind.i32 (0 : Int)), V.val (Value.int IntKind.u32 (0 : Int)), V.mref (1 : Nat), I (Dv.fuse d1)], Obj.nest (Nest.mp (Dv.nl d1) (mE (Dv.fs d1))) []] (I e2) [some (Obj.box [I (Dv.room d2), I (Dv.used d2), V.val (Value.int IntKind.u32 (bif Dv.nl d2 then (0 : Int) else (1 : Int))), V.val (Value.int IntKind.i32 (0 : Int)), V.val (Value.int IntKind.u32 (0 : Int)), V.mref (2 : Nat), I (Dv.fuse d2)]), none, some (Obj.nest (Nest.mp (Dv.nl d2) (mE (Dv.fs d2))) [])],
      (e2 != (0 : Int)) = false,
      Contract Tryz.prog (32 : Nat) [V.ptr (0 : Nat) (0 : Nat) (0 : Nat) (0 : Nat), Sg t] [Obj.box [I (Dv.room d2), I (Dv.used d2), V.val (Value.int IntKind.u32 (bif Dv.nl d2 then (0 : Int) else (1 : Int))), V.val (Value.int IntKind.i32 (0 : Int)), V.val (Value.int IntKind.u32 (0 : Int)), V.mref (1 : Nat), I (Dv.fuse d2)], Obj.nest (Nest.mp (Dv.nl d2) (mE (Dv.fs d2))) []] (I e3) [some (Obj.box [I (Dv.room d3), I (Dv.used d3), V.val (Value.int IntKind.u32 (bif Dv.nl d3 then (0 : Int) else (1 : Int))), V.val (Value.int IntKind.i32 (0 : Int)), V.val (Value.int IntKind.u32 (0 : Int)), V.mref (1 : Nat), I (Dv.fuse d3)]), some (Obj.nest (Nest.mp (Dv.nl d3) (mE (Dv.fs d3))) [])],
      (e3 != (0 : Int)) = false,
      Contract Tryz.prog (33 : Nat) [V.ptr (0 : Nat) (0 : Nat) (0 : Nat) (0 : Nat), Sg t, Sg nm] [Obj.box [I (Dv.room d3), I (Dv.used d3), V.val (Value.int IntKind.u32 (bif Dv.nl d3 then (0 : Int) else (1 : Int))), V.val (Value.int IntKind.i32 (0 : Int)), V.val (Value.int IntKind.u32 (0 : Int)), V.mref (1 : Nat), I (Dv.fuse d3)], Obj.nest (Nest.mp (Dv.nl d3) (mE (Dv.fs d3))) []] (I e4) [some (Obj.box [I (Dv.room d4), I (Dv.used d4), V.val (Value.int IntKind.u32 (bif Dv.nl d4 then (0 : Int) else (1 : Int))), V.val (Value.int IntKind.i32 (0 : Int)), V.val (Value.int IntKind.u32 (0 : Int)), V.mref (1 : Nat), I (Dv.fuse d4)]), some (Obj.nest (Nest.mp (Dv.nl d4) (mE (Dv.fs d4))) [])]] (by kernel_rfl)
    (by
      simp only [allP]
      and_intros <;> first
        | omega
        | exact h0
        | exact h1
        | exact h2
        | exact h3
        | exact h4
        | exact ht
        | (simp [n1]; done)
        | (simp [n2]; done)
        | (simp [n3]; done))

theorem ptTr (d d1 d2 d3 d4 : Dv) (nm t : ByteArray) (b bs : List UInt8) (e1 e2 e3 e4 : Int) (ht : nm ++ tmpS = t) (hz : nm.size ≤ 1000000) (h0 : Contract Tryz.prog 18 [.ptr 0 0 0 0, .val (.string t)] [d.box 1, d.map] (.tup [.sl 1 (bs.map bR), Bo true]) [some (d.box 1), some d.map]) (h1 : Contract Tryz.prog 31 [.ptr 0 0 0 0, .val (.string t)] [d.box 1, d.map] (I e1) [some (d1.box 1), some d1.map]) (n1 : e1 = 0) (h2 : Contract Tryz.prog 8 [.ptr 0 0 0 0, .val (.string t), .sl 1 (b.map bR)] [d1.box 1, d1.map] (I e2) [some (d2.box 2), none, some d2.map]) (n2 : e2 = 0) (h3 : Contract Tryz.prog 32 [.ptr 0 0 0 0, .val (.string t)] [d2.box 1, d2.map] (I e3) [some (d3.box 1), some d3.map]) (n3 : e3 = 0) (h4 : Contract Tryz.prog 33 [.ptr 0 0 0 0, .val (.string t), .val (.string nm)] [d3.box 1, d3.map] (I e4) [some (d4.box 1), some d4.map]) : Contract Tryz.prog 12 [.ptr 0 0 0 0, .val (.string nm), .sl 1 (b.map bR)] [d.box 1, d.map] (I e4) [some (d4.box 2), none, some d4.map] := by
  exact Contract.cast (by
    first
      | rfl) (by
    first
      | rfl) (ptTr_0 d d1 d2 d3 d4 nm t b bs e1 e2 e3 e4 ht hz h0 h1 n1 h2 n2 h3 n3 h4 )

theorem ptFa_0 (d d1 d2 d3 d4 : Dv) (nm t : ByteArray) (b bs : List UInt8) (e1 e2 e3 e4 : Int) (ht : nm ++ tmpS = t) (hz : nm.size ≤ 1000000) (h0 : Contract Tryz.prog 18 [.ptr 0 0 0 0, .val (.string t)] [d.box 1, d.map] (.tup [.sl 1 (bs.map bR), Bo false]) [some (d.box 1), some d.map]) (h2 : Contract Tryz.prog 8 [.ptr 0 0 0 0, .val (.string t), .sl 1 (b.map bR)] [d.box 1, d.map] (I e2) [some (d2.box 2), none, some d2.map]) (n2 : e2 ≠ 0) : Contract Tryz.prog 12 [.ptr 0 0 0 0, .val (.string nm), .sl 1 (b.map bR)] [d.box 1, d.map] (I e2) ([some (Obj.box [I (Dv.room d2), I (Dv.used d2), V.val (Value.int IntKind.u32 (bif Dv.nl d2 then (0 : Int) else (1 : Int))), V.val (Value.int IntKind.i32 (0 : Int)), V.val (Value.int IntKind.u32 (0 : Int)), V.mref (2 : Nat), I (Dv.fuse d2)]), none, some (Obj.nest (Nest.mp (Dv.nl d2) (mE (Dv.fs d2))) [])]) :=
  vcP hmix [.reg 1 [(1, [.idx 0, .be (.val (.string t))], none)], .reg 2 [(2, [.call [0, 1] [] (.tup [.sl 1 (bs.map bR), Bo false]) [some (d.box 1), some d.map]], none)], .reg 7 [(3, [.call [0, 1] [] (I e2) [some (d2.box 2), none, some d2.map]], none)], .reg 8 [(1, [], some true)]] [1404001] [
      ByteArray.size nm + (4 : Nat) ≤ (9223372036854775807 : Nat),
      { data := { toList := Array.toList (ByteArray.data nm) ++ [(46 : UInt8), (116 : UInt8), (109 : UInt8), (112 : UInt8)] } } = t,
      Contract Tryz.prog (18 : Nat) [V.ptr (0 : Nat) (0 : Nat) (0 : Nat) (0 : Nat), Sg t] [Obj.box [I (Dv.room d), I (Dv.used d), V.val (Value.int IntKind.u32 (bif Dv.nl d then (0 : Int) else (1 : Int))), V.val (Value.int IntKind.i32 (0 : Int)), V.val (Value.int IntKind.u32 (0 : Int)), V.mref (1 : Nat), I (Dv.fuse d)], Obj.nest (Nest.mp (Dv.nl d) (mE (Dv.fs d))) []] (V.tup [V.sl (1 : Nat) (List.map bR bs), Bo false]) [some (Obj.box [I (Dv.room d), I (Dv.used d), V.val (Value.int IntKind.u32 (bif Dv.nl d then (0 : Int) else (1 : Int))), V.val (Value.int IntKind.i32 (0 : Int)), V.val (Value.int IntKind.u32 (0 : Int)), V.mref (1 : Nat), I (Dv.fuse d)]), some (Obj.nest (Nest.mp (Dv.nl d) (mE (Dv.fs d))) [])],
      Contract Tryz.prog (8 : Nat) [V.ptr (0 : Nat) (0 : Nat) (0 : Nat) (0 : Nat), Sg t, V.sl (1 : Nat) (List.map bR b)] [Obj.box [I (Dv.room d), I (Dv.used d), V.val (Value.int IntKind.u32 (bif Dv.nl d then (0 : Int) else (1 : Int))), V.val (Value.int IntKind.i32 (0 : Int)), V.val (Value.int IntKind.u32 (0 : Int)), V.mref (1 : Nat), I (Dv.fuse d)], Obj.nest (Nest.mp (Dv.nl d) (mE (Dv.fs d))) []] (I e2) [some (Obj.box [I (Dv.room d2), I (Dv.used d2), V.val (Value.int IntKind.u32 (bif Dv.nl d2 then (0 : Int) else (1 : Int))), V.val (Value.int IntKind.i32 (0 : Int)), V.val (Value.int IntKind.u32 (0 : Int)), V.mref (2 : Nat), I (Dv.fuse d2)]), none, some (Obj.nest (Nest.mp (Dv.nl d2) (mE (Dv.fs d2))) [])],
      (e2 != (0 : Int)) = true] (by kernel_rfl)
    (by
      simp only [allP]
      and_intros <;> first
        | omega
        | exact h0
        | exact h2
        | exact ht
        | (simp [n2]; done))

theorem ptFa (d d1 d2 d3 d4 : Dv) (nm t : ByteArray) (b bs : List UInt8) (e1 e2 e3 e4 : Int) (ht : nm ++ tmpS = t) (hz : nm.size ≤ 1000000) (h0 : Contract Tryz.prog 18 [.ptr 0 0 0 0, .val (.string t)] [d.box 1, d.map] (.tup [.sl 1 (bs.map bR), Bo false]) [some (d.box 1), some d.map]) (h2 : Contract Tryz.prog 8 [.ptr 0 0 0 0, .val (.string t), .sl 1 (b.map bR)] [d.box 1, d.map] (I e2) [some (d2.box 2), none, some d2.map]) (n2 : e2 ≠ 0) : Contract Tryz.prog 12 [.ptr 0 0 0 0, .val (.string nm), .sl 1 (b.map bR)] [d.box 1, d.map] (I e2) [some (d2.box 2), none, some d2.map] := by
  exact Contract.cast (by
    first
      | rfl) (by
    first
      | rfl) (ptFa_0 d d1 d2 d3 d4 nm t b bs e1 e2 e3 e4 ht hz h0 h2 n2 )

theorem ptFs_0 (d d1 d2 d3 d4 : Dv) (nm t : ByteArray) (b bs : List UInt8) (e1 e2 e3 e4 : Int) (ht : nm ++ tmpS = t) (hz : nm.size ≤ 1000000) (h0 : Contract Tryz.prog 18 [.ptr 0 0 0 0, .val (.string t)] [d.box 1, d.map] (.tup [.sl 1 (bs.map bR), Bo false]) [some (d.box 1), some d.map]) (h2 : Contract Tryz.prog 8 [.ptr 0 0 0 0, .val (.string t), .sl 1 (b.map bR)] [d.box 1, d.map] (I e2) [some (d2.box 2), none, some d2.map]) (n2 : e2 = 0) (h3 : Contract Tryz.prog 32 [.ptr 0 0 0 0, .val (.string t)] [d2.box 1, d2.map] (I e3) [some (d3.box 1), some d3.map]) (n3 : e3 ≠ 0) : Contract Tryz.prog 12 [.ptr 0 0 0 0, .val (.string nm), .sl 1 (b.map bR)] [d.box 1, d.map] (I e3) ([some (Obj.box [I (Dv.room d3), I (Dv.used d3), V.val (Value.int IntKind.u32 (bif Dv.nl d3 then (0 : Int) else (1 : Int))), V.val (Value.int IntKind.i32 (0 : Int)), V.val (Value.int IntKind.u32 (0 : Int)), V.mref (2 : Nat), I (Dv.fuse d3)]), none, some (Obj.nest (Nest.mp (Dv.nl d3) (mE (Dv.fs d3))) [])]) :=
  vcP hmix [.reg 1 [(1, [.idx 0, .be (.val (.string t))], none)], .reg 2 [(2, [.call [0, 1] [] (.tup [.sl 1 (bs.map bR), Bo false]) [some (d.box 1), some d.map]], none)], .reg 7 [(3, [.call [0, 1] [] (I e2) [some (d2.box 2), none, some d2.map]], none)], .reg 8 [(1, [], some false)], .reg 10 [(2, [.call [0, 1404001] [] (I e3) [some (d3.box 1), some d3.map]], none)], .reg 11 [(1, [], some true)]] [1404001] [
      ByteArray.size nm + (4 : Nat) ≤ (9223372036854775807 : Nat),
      { data := { toList := Array.toList (ByteArray.data nm) ++ [(46 : UInt8), (116 : UInt8), (109 : UInt8), (112 : UInt8)] } } = t,
      Contract Tryz.prog (18 : Nat) [V.ptr (0 : Nat) (0 : Nat) (0 : Nat) (0 : Nat), Sg t] [Obj.box [I (Dv.room d), I (Dv.used d), V.val (Value.int IntKind.u32 (bif Dv.nl d then (0 : Int) else (1 : Int))), V.val (Value.int IntKind.i32 (0 : Int)), V.val (Value.int IntKind.u32 (0 : Int)), V.mref (1 : Nat), I (Dv.fuse d)], Obj.nest (Nest.mp (Dv.nl d) (mE (Dv.fs d))) []] (V.tup [V.sl (1 : Nat) (List.map bR bs), Bo false]) [some (Obj.box [I (Dv.room d), I (Dv.used d), V.val (Value.int IntKind.u32 (bif Dv.nl d then (0 : Int) else (1 : Int))), V.val (Value.int IntKind.i32 (0 : Int)), V.val (Value.int IntKind.u32 (0 : Int)), V.mref (1 : Nat), I (Dv.fuse d)]), some (Obj.nest (Nest.mp (Dv.nl d) (mE (Dv.fs d))) [])],
      Contract Tryz.prog (8 : Nat) [V.ptr (0 : Nat) (0 : Nat) (0 : Nat) (0 : Nat), Sg t, V.sl (1 : Nat) (List.map bR b)] [Obj.box [I (Dv.room d), I (Dv.used d), V.val (Value.int IntKind.u32 (bif Dv.nl d then (0 : Int) else (1 : Int))), V.val (Value.int IntKind.i32 (0 : Int)), V.val (Value.int IntKind.u32 (0 : Int)), V.mref (1 : Nat), I (Dv.fuse d)], Obj.nest (Nest.mp (Dv.nl d) (mE (Dv.fs d))) []] (I e2) [some (Obj.box [I (Dv.room d2), I (Dv.used d2), V.val (Value.int IntKind.u32 (bif Dv.nl d2 then (0 : Int) else (1 : Int))), V.val (Value.int IntKind.i32 (0 : Int)), V.val (Value.int IntKind.u32 (0 : Int)), V.mref (2 : Nat), I (Dv.fuse d2)]), none, some (Obj.nest (Nest.mp (Dv.nl d2) (mE (Dv.fs d2))) [])],
      (e2 != (0 : Int)) = false,
      Contract Tryz.prog (32 : Nat) [V.ptr (0 : Nat) (0 : Nat) (0 : Nat) (0 : Nat), Sg t] [Obj.box [I (Dv.room d2), I (Dv.used d2), V.val (Value.int IntKind.u32 (bif Dv.nl d2 then (0 : Int) else (1 : Int))), V.val (Value.int IntKind.i32 (0 : Int)), V.val (Value.int IntKind.u32 (0 : Int)), V.mref (1 : Nat), I (Dv.fuse d2)], Obj.nest (Nest.mp (Dv.nl d2) (mE (Dv.fs d2))) []] (I e3) [some (Obj.box [I (Dv.room d3), I (Dv.used d3), V.val (Value.int IntKind.u32 (bif Dv.nl d3 then (0 : Int) else (1 : Int))), V.val (Value.int IntKind.i32 (0 : Int)), V.val (Value.int IntKind.u32 (0 : Int)), V.mref (1 : Nat), I (Dv.fuse d3)]), some (Obj.nest (Nest.mp (Dv.nl d3) (mE (Dv.fs d3))) [])],
      (e3 != (0 : Int)) = true] (by kernel_rfl)
    (by
      simp only [allP]
      and_intros <;> first
        | omega
        | exact h0
        | exact h2
        | exact h3
        | exact ht
        | (simp [n2]; done)
        | (simp [n3]; done))

theorem ptFs (d d1 d2 d3 d4 : Dv) (nm t : ByteArray) (b bs : List UInt8) (e1 e2 e3 e4 : Int) (ht : nm ++ tmpS = t) (hz : nm.size ≤ 1000000) (h0 : Contract Tryz.prog 18 [.ptr 0 0 0 0, .val (.string t)] [d.box 1, d.map] (.tup [.sl 1 (bs.map bR), Bo false]) [some (d.box 1), some d.map]) (h2 : Contract Tryz.prog 8 [.ptr 0 0 0 0, .val (.string t), .sl 1 (b.map bR)] [d.box 1, d.map] (I e2) [some (d2.box 2), none, some d2.map]) (n2 : e2 = 0) (h3 : Contract Tryz.prog 32 [.ptr 0 0 0 0, .val (.string t)] [d2.box 1, d2.map] (I e3) [some (d3.box 1), some d3.map]) (n3 : e3 ≠ 0) : Contract Tryz.prog 12 [.ptr 0 0 0 0, .val (.string nm), .sl 1 (b.map bR)] [d.box 1, d.map] (I e3) [some (d3.box 2), none, some d3.map] := by
  exact Contract.cast (by
    first
      | rfl) (by
    first
      | rfl) (ptFs_0 d d1 d2 d3 d4 nm t b bs e1 e2 e3 e4 ht hz h0 h2 n2 h3 n3 )

theorem ptFr_0 (d d1 d2 d3 d4 : Dv) (nm t : ByteArray) (b bs : List UInt8) (e1 e2 e3 e4 : Int) (ht : nm ++ tmpS = t) (hz : nm.size ≤ 1000000) (h0 : Contract Tryz.prog 18 [.ptr 0 0 0 0, .val (.string t)] [d.box 1, d.map] (.tup [.sl 1 (bs.map bR), Bo false]) [some (d.box 1), some d.map]) (h2 : Contract Tryz.prog 8 [.ptr 0 0 0 0, .val (.string t), .sl 1 (b.map bR)] [d.box 1, d.map] (I e2) [some (d2.box 2), none, some d2.map]) (n2 : e2 = 0) (h3 : Contract Tryz.prog 32 [.ptr 0 0 0 0, .val (.string t)] [d2.box 1, d2.map] (I e3) [some (d3.box 1), some d3.map]) (n3 : e3 = 0) (h4 : Contract Tryz.prog 33 [.ptr 0 0 0 0, .val (.string t), .val (.string nm)] [d3.box 1, d3.map] (I e4) [some (d4.box 1), some d4.map]) : Contract Tryz.prog 12 [.ptr 0 0 0 0, .val (.string nm), .sl 1 (b.map bR)] [d.box 1, d.map] (I e4) ([some (Obj.box [I (Dv.room d4), I (Dv.used d4), V.val (Value.int IntKind.u32 (bif Dv.nl d4 then (0 : Int) else (1 : Int))), V.val (Value.int IntKind.i32 (0 : Int)), V.val (Value.int IntKind.u32 (0 : Int)), V.mref (2 : Nat), I (Dv.fuse d4)]), none, some (Obj.nest (Nest.mp (Dv.nl d4) (mE (Dv.fs d4))) [])]) :=
  vcP hmix [.reg 1 [(1, [.idx 0, .be (.val (.string t))], none)], .reg 2 [(2, [.call [0, 1] [] (.tup [.sl 1 (bs.map bR), Bo false]) [some (d.box 1), some d.map]], none)], .reg 7 [(3, [.call [0, 1] [] (I e2) [some (d2.box 2), none, some d2.map]], none)], .reg 8 [(1, [], some false)], .reg 10 [(2, [.call [0, 1404001] [] (I e3) [some (d3.box 1), some d3.map]], none)], .reg 11 [(1, [], some false)], .reg 13 [(3, [.call [0, 1404001] [] (I e4) [some (d4.box 1), some d4.map]], none)]] [1404001] [
      ByteArray.size nm + (4 : Nat) ≤ (9223372036854775807 : Nat),
      { data := { toList := Array.toList (ByteArray.data nm) ++ [(46 : UInt8), (116 : UInt8), (109 : UInt8), (112 : UInt8)] } } = t,
      Contract Tryz.prog (18 : Nat) [V.ptr (0 : Nat) (0 : Nat) (0 : Nat) (0 : Nat), Sg t] [Obj.box [I (Dv.room d), I (Dv.used d), V.val (Value.int IntKind.u32 (bif Dv.nl d then (0 : Int) else (1 : Int))), V.val (Value.int IntKind.i32 (0 : Int)), V.val (Value.int IntKind.u32 (0 : Int)), V.mref (1 : Nat), I (Dv.fuse d)], Obj.nest (Nest.mp (Dv.nl d) (mE (Dv.fs d))) []] (V.tup [V.sl (1 : Nat) (List.map bR bs), Bo false]) [some (Obj.box [I (Dv.room d), I (Dv.used d), V.val (Value.int IntKind.u32 (bif Dv.nl d then (0 : Int) else (1 : Int))), V.val (Value.int IntKind.i32 (0 : Int)), V.val (Value.int IntKind.u32 (0 : Int)), V.mref (1 : Nat), I (Dv.fuse d)]), some (Obj.nest (Nest.mp (Dv.nl d) (mE (Dv.fs d))) [])],
      Contract Tryz.prog (8 : Nat) [V.ptr (0 : Nat) (0 : Nat) (0 : Nat) (0 : Nat), Sg t, V.sl (1 : Nat) (List.map bR b)] [Obj.box [I (Dv.room d), I (Dv.used d), V.val (Value.int IntKind.u32 (bif Dv.nl d then (0 : Int) else (1 : Int))), V.val (Value.int IntKind.i32 (0 : Int)), V.val (Value.int IntKind.u32 (0 : Int)), V.mref (1 : Nat), I (Dv.fuse d)], Obj.nest (Nest.mp (Dv.nl d) (mE (Dv.fs d))) []] (I e2) [some (Obj.box [I (Dv.room d2), I (Dv.used d2), V.val (Value.int IntKind.u32 (bif Dv.nl d2 then (0 : Int) else (1 : Int))), V.val (Value.int IntKind.i32 (0 : Int)), V.val (Value.int IntKind.u32 (0 : Int)), V.mref (2 : Nat), I (Dv.fuse d2)]), none, some (Obj.nest (Nest.mp (Dv.nl d2) (mE (Dv.fs d2))) [])],
      (e2 != (0 : Int)) = false,
      Contract Tryz.prog (32 : Nat) [V.ptr (0 : Nat) (0 : Nat) (0 : Nat) (0 : Nat), Sg t] [Obj.box [I (Dv.room d2), I (Dv.used d2), V.val (Value.int IntKind.u32 (bif Dv.nl d2 then (0 : Int) else (1 : Int))), V.val (Value.int IntKind.i32 (0 : Int)), V.val (Value.int IntKind.u32 (0 : Int)), V.mref (1 : Nat), I (Dv.fuse d2)], Obj.nest (Nest.mp (Dv.nl d2) (mE (Dv.fs d2))) []] (I e3) [some (Obj.box [I (Dv.room d3), I (Dv.used d3), V.val (Value.int IntKind.u32 (bif Dv.nl d3 then (0 : Int) else (1 : Int))), V.val (Value.int IntKind.i32 (0 : Int)), V.val (Value.int IntKind.u32 (0 : Int)), V.mref (1 : Nat), I (Dv.fuse d3)]), some (Obj.nest (Nest.mp (Dv.nl d3) (mE (Dv.fs d3))) [])],
      (e3 != (0 : Int)) = false,
      Contract Tryz.prog (33 : Nat) [V.ptr (0 : Nat) (0 : Nat) (0 : Nat) (0 : Nat), Sg t, Sg nm] [Obj.box [I (Dv.room d3), I (Dv.used d3), V.val (Value.int IntKind.u32 (bif Dv.nl d3 then (0 : Int) else (1 : Int))), V.val (Value.int IntKind.i32 (0 : Int)), V.val (Value.int IntKind.u32 (0 : Int)), V.mref (1 : Nat), I (Dv.fuse d3)], Obj.nest (Nest.mp (Dv.nl d3) (mE (Dv.fs d3))) []] (I e4) [some (Obj.box [I (Dv.room d4), I (Dv.used d4), V.val (Value.int IntKind.u32 (bif Dv.nl d4 then (0 : Int) else (1 : Int))), V.val (Value.int IntKind.i32 (0 : Int)), V.val (Value.int IntKind.u32 (0 : Int)), V.mref (1 : Nat), I (Dv.fuse d4)]), some (Obj.nest (Nest.mp (Dv.nl d4) (mE (Dv.fs d4))) [])]] (by kernel_rfl)
    (by
      simp only [allP]
      and_intros <;> first
        | omega
        | exact h0
        | exact h2
        | exact h3
        | exact h4
        | exact ht
        | (simp [n2]; done)
        | (simp [n3]; done))

theorem ptFr (d d1 d2 d3 d4 : Dv) (nm t : ByteArray) (b bs : List UInt8) (e1 e2 e3 e4 : Int) (ht : nm ++ tmpS = t) (hz : nm.size ≤ 1000000) (h0 : Contract Tryz.prog 18 [.ptr 0 0 0 0, .val (.string t)] [d.box 1, d.map] (.tup [.sl 1 (bs.map bR), Bo false]) [some (d.box 1), some d.map]) (h2 : Contract Tryz.prog 8 [.ptr 0 0 0 0, .val (.string t), .sl 1 (b.map bR)] [d.box 1, d.map] (I e2) [some (d2.box 2), none, some d2.map]) (n2 : e2 = 0) (h3 : Contract Tryz.prog 32 [.ptr 0 0 0 0, .val (.string t)] [d2.box 1, d2.map] (I e3) [some (d3.box 1), some d3.map]) (n3 : e3 = 0) (h4 : Contract Tryz.prog 33 [.ptr 0 0 0 0, .val (.string t), .val (.string nm)] [d3.box 1, d3.map] (I e4) [some (d4.box 1), some d4.map]) : Contract Tryz.prog 12 [.ptr 0 0 0 0, .val (.string nm), .sl 1 (b.map bR)] [d.box 1, d.map] (I e4) [some (d4.box 2), none, some d4.map] := by
  exact Contract.cast (by
    first
      | rfl) (by
    first
      | rfl) (ptFr_0 d d1 d2 d3 d4 nm t b bs e1 e2 e3 e4 ht hz h0 h2 n2 h3 n3 h4 )

theorem delete_sz {d : Dv} (s : ByteArray) (hk : Ok d) : tot (d.delete s).1.fs ≤ tot d.fs ∧ (d.delete s).1.fs.length ≤ d.fs.length := by
  unfold Dv.delete
  split
  · exact ⟨Nat.le_refl _, Nat.le_refl _⟩
  cases hl : look d.fs s with
  | none => exact ⟨Nat.le_refl _, Nat.le_refl _⟩
  | some f =>
    have := tot_del hk.uniq s
    exact ⟨by show tot (del d.fs s) ≤ _; omega, length_del _ _⟩
theorem put_ok {d : Dv} {nm : ByteArray} {b : List UInt8} (hk : Ok d) (hb : tot d.fs + b.length ≤ 1000000000) (hz : nm.size ≤ 1000000) (hl : d.fs.length < 1000000000) : Ok (d.put nm b).1 := by
  have htz : (nm ++ tmpS).size ≤ maxLen := by
    have : (nm ++ tmpS).size = nm.size + 4 := by rw [ByteArray.size_append]; rfl
    rw [this]; unfold maxLen; omega
  have hnz : nm.size ≤ maxLen := Nat.le_trans hz (by decide)
  have hds := delete_sz (nm ++ tmpS) hk
  have key : ∀ e : Dv, Ok e → tot e.fs ≤ tot d.fs → e.fs.length ≤ d.fs.length → Ok (e.putA nm b).1 := by
    intro e he ht hle
    have h2 := append_ok (s := nm ++ tmpS) (b := b) he (by omega) htz (by omega)
    unfold Dv.putA
    split
    · exact h2
    have h3 := sync_ok (s := nm ++ tmpS) h2
    split
    · exact h3
    · exact rename_ok h3 hnz
  unfold Dv.put
  split
  · split
    · exact delete_ok hk
    · exact key _ (delete_ok hk) hds.1 hds.2
  · exact key d hk (Nat.le_refl _) (Nat.le_refl _)
theorem cPut (d : Dv) (nm : ByteArray) (b : List UInt8) (hk : Ok d) (hb : tot d.fs + b.length ≤ 1000000000) (hz : nm.size ≤ 1000000) (hl : d.fs.length < 1000000000) :
    Contract Tryz.prog 12 [.ptr 0 0 0 0, .val (.string nm), .sl 1 (b.map bR)] [d.box 1, d.map] (I (d.put nm b).2) [some ((d.put nm b).1.box 2), none, some (d.put nm b).1.map] := by
  have htz : (nm ++ tmpS).size ≤ maxLen := by
    have : (nm ++ tmpS).size = nm.size + 4 := by rw [ByteArray.size_append]; rfl
    rw [this]; unfold maxLen; omega
  have hr := cRead d (nm ++ tmpS) hk
  unfold Dv.put
  cases hlk : (look d.fs (nm ++ tmpS)).isSome with
  | true =>
    rw [hlk] at hr
    rw [if_pos rfl]
    have hd := cDelete d (nm ++ tmpS) hk
    have hko := delete_ok (s := nm ++ tmpS) hk
    have hds := delete_sz (nm ++ tmpS) hk
    by_cases n1 : (d.delete (nm ++ tmpS)).2 = 0
    · rw [if_neg (fun h => h n1)]
      have ha := cAppend (d.delete (nm ++ tmpS)).1 (nm ++ tmpS) b hko (by omega)
      have hao := append_ok (s := nm ++ tmpS) (b := b) hko (by omega) htz (by omega)
      unfold Dv.putA
      by_cases n2 : ((d.delete (nm ++ tmpS)).1.append (nm ++ tmpS) b).2 = 0
      · rw [if_neg (fun h => h n2)]
        have hs := cSync _ (nm ++ tmpS) hao
        have hso := sync_ok (s := nm ++ tmpS) hao
        by_cases n3 : (((d.delete (nm ++ tmpS)).1.append (nm ++ tmpS) b).1.sync (nm ++ tmpS)).2 = 0
        · rw [if_neg (fun h => h n3)]
          exact ptTr d _ _ _ _ nm _ b _ _ _ _ _ rfl hz hr hd n1 ha n2 hs n3 (cRename _ (nm ++ tmpS) nm hso)
        · rw [if_pos n3]
          exact ptTs d _ _ _ d nm _ b _ _ _ _ 0 rfl hz hr hd n1 ha n2 hs n3
      · rw [if_pos n2]
        exact ptTa d _ _ d d nm _ b _ _ _ 0 0 rfl hz hr hd n1 ha n2
    · rw [if_pos n1]
      exact renMapD _ rfl (ptTd d _ d d d nm _ b _ _ 0 0 0 rfl hz hr hd n1)
  | false =>
    rw [hlk] at hr
    rw [if_neg (by decide)]
    have ha := cAppend d (nm ++ tmpS) b hk (by omega)
    have hao := append_ok (s := nm ++ tmpS) (b := b) hk (by omega) htz (by omega)
    unfold Dv.putA
    by_cases n2 : (d.append (nm ++ tmpS) b).2 = 0
    · rw [if_neg (fun h => h n2)]
      have hs := cSync _ (nm ++ tmpS) hao
      have hso := sync_ok (s := nm ++ tmpS) hao
      by_cases n3 : ((d.append (nm ++ tmpS) b).1.sync (nm ++ tmpS)).2 = 0
      · rw [if_neg (fun h => h n3)]
        exact ptFr d d _ _ _ nm _ b _ 0 _ _ _ rfl hz hr ha n2 hs n3 (cRename _ (nm ++ tmpS) nm hso)
      · rw [if_pos n3]
        exact ptFs d d _ _ d nm _ b _ 0 _ _ 0 rfl hz hr ha n2 hs n3
    · rw [if_pos n2]
      exact ptFa d d _ d d nm _ b _ 0 _ 0 0 rfl hz hr ha n2
end Go.Proofs.YtinfjnnffmlpmaaGreatDoor

/- what Put does. -/
namespace Go.Proofs.YtinfjnnffmlpmaaGreatDoor
open E
set_option maxRecDepth 100000
set_option linter.unusedVariables false
set_option linter.unusedSimpArgs false

/-- What a file is that is put. -/
theorem look_append {d : Dv} {s f : ByteArray} {b : List UInt8} (h : f ≠ s) : look (d.append s b).1.fs f = look d.fs f := by
  unfold Dv.append
  split
  · rfl
  split
  · rfl
  split
  · rfl
  · simp only [Dv.went, look_put, if_neg h]
theorem look_sync {d : Dv} {s f : ByteArray} (h : f ≠ s) : look (d.sync s).1.fs f = look d.fs f := by
  unfold Dv.sync
  split
  · rfl
  cases look d.fs s with
  | none => rfl
  | some g => simp only [Dv.went, look_put, if_neg h]
theorem look_delete {d : Dv} {s f : ByteArray} (h : f ≠ s) : look (d.delete s).1.fs f = look d.fs f := by
  unfold Dv.delete
  split
  · rfl
  cases look d.fs s with
  | none => rfl
  | some g => simp only [Dv.went, look_del, if_neg h]
theorem look_app (A B : Fs) (s : ByteArray) : look (A ++ B) s = match look A s with
    | some f => some f
    | none => look B s := by
  unfold look
  rw [List.find?_append]
  cases A.find? (fun p => s == p.1) <;> rfl
theorem tmp_ne (nm : ByteArray) : nm ≠ nm ++ tmpS := by
  intro h
  have := congrArg ByteArray.size h
  rw [ByteArray.size_append] at this
  have h4 : tmpS.size = 4 := rfl
  omega
theorem tmp_nl (nm : ByteArray) : (nm ++ tmpS).toList ≠ [] := by
  rw [ByteArray.toList_eq]
  intro h
  have := congrArg List.length h
  simp at this
  have h4 : tmpS.data.size = 4 := rfl
  simp [tmpS] at *
theorem putA_look {e : Dv} {nm : ByteArray} {b : List UInt8} (hn : nm.toList ≠ []) (ht : look e.fs (nm ++ tmpS) = none) :
    ((e.putA nm b).2 = 0 ∧ look (e.putA nm b).1.fs nm = some ⟨b, b.length⟩) ∨ ((e.putA nm b).2 ≠ 0 ∧ look (e.putA nm b).1.fs nm = look e.fs nm) := by
  have hne := tmp_ne nm
  unfold Dv.putA
  split
  · rename_i h; exact .inr ⟨h, look_append hne⟩
  rename_i h
  split
  · rename_i h2; exact .inr ⟨h2, by rw [look_sync hne, look_append hne]⟩
  rename_i h2
  have h : (e.append (nm ++ tmpS) b).2 = 0 := Classical.not_not.1 h
  have h2 : ((e.append (nm ++ tmpS) b).1.sync (nm ++ tmpS)).2 = 0 := Classical.not_not.1 h2
  have k1 : look (e.append (nm ++ tmpS) b).1.fs (nm ++ tmpS) = some ⟨b, 0⟩ := by
    unfold Dv.append at h ⊢
    split at h
    · cases h
    rename_i c1
    split at h
    · cases h
    rename_i c2
    split at h
    · cases h
    rename_i c3
    rw [if_neg c1, if_neg c2, if_neg c3]
    simp [Dv.went, look_put, ht]
  have k2 : look ((e.append (nm ++ tmpS) b).1.sync (nm ++ tmpS)).1.fs (nm ++ tmpS) = some ⟨b, b.length⟩ := by
    unfold Dv.sync at h2 ⊢
    split at h2
    · cases h2
    rename_i c1
    rw [if_neg c1, k1]
    simp [Dv.went, look_put]
  have k3 : look ((e.append (nm ++ tmpS) b).1.sync (nm ++ tmpS)).1.fs nm = look e.fs nm := by rw [look_sync hne, look_append hne]
  unfold Dv.rename
  split
  · exact .inr ⟨(by decide : (5 : Int) ≠ 0), k3⟩
  rw [k2]
  simp only
  rw [if_neg (fun h => hne h.symm)]
  left
  refine ⟨rfl, ?_⟩
  simp only [Dv.went, look_app, look_del, if_true]
  rw [if_neg hne]
  simp [look]
theorem put_look {d : Dv} {nm : ByteArray} {b : List UInt8} (hk : Ok d) (hn : nm.toList ≠ []) :
    ((d.put nm b).2 = 0 ∧ look (d.put nm b).1.fs nm = some ⟨b, b.length⟩) ∨ ((d.put nm b).2 ≠ 0 ∧ look (d.put nm b).1.fs nm = look d.fs nm) := by
  have hne := tmp_ne nm
  unfold Dv.put
  cases hlk : (look d.fs (nm ++ tmpS)).isSome with
  | true =>
    rw [if_pos rfl]
    split
    · rename_i h; exact .inr ⟨h, look_delete hne⟩
    · rename_i h
      have h : (d.delete (nm ++ tmpS)).2 = 0 := Classical.not_not.1 h
      have hgone : look (d.delete (nm ++ tmpS)).1.fs (nm ++ tmpS) = none := by
        obtain ⟨g, hg⟩ := Option.isSome_iff_exists.1 hlk
        unfold Dv.delete at h ⊢
        split at h
        · cases h
        rename_i c1
        rw [if_neg c1, hg]
        simp [Dv.went, look_del]
      have := putA_look (b := b) hn hgone
      rwa [look_delete hne] at this
  | false =>
    rw [if_neg (by decide)]
    exact putA_look hn (by cases hl : look d.fs (nm ++ tmpS) with
      | none => rfl
      | some g => rw [hl] at hlk; cases hlk)
/-- There is room, and it lives. -/
theorem put_good {R : Int} {nm : ByteArray} {b : List UInt8} (hn : nm.toList ≠ []) (hb : (b.length : Int) ≤ R) : ((⟨R, 0, true, [], -1⟩ : Dv).put nm b).2 = 0 := by
  unfold Dv.put
  rw [if_neg (by simp [look])]
  unfold Dv.putA
  rw [appNew R (nm ++ tmpS) b (tmp_nl nm) hb]
  rw [if_neg (fun h => h rfl)]
  have hs : ((⟨R, b.length, false, [(nm ++ tmpS, ⟨b, 0⟩)], -1⟩ : Dv).sync (nm ++ tmpS)) = (⟨R, b.length, false, [(nm ++ tmpS, ⟨b, b.length⟩)], -1⟩, 0) := by
    unfold Dv.sync
    rw [if_neg (by show ¬ ((-1 : Int) = 0); decide)]
    simp [look, put, Dv.went]
  simp only [hs]
  rw [if_neg (fun h => h rfl)]
  unfold Dv.rename
  rw [if_neg (by show ¬ ((-1 : Int) = 0); decide)]
  simp [look, hn, (tmp_ne nm).symm]
theorem sx_ne : (⟨#[120]⟩ : ByteArray).toList ≠ [] := ba_ne 120 []
def dvX : Dv := ((⟨100, 0, true, [], -1⟩ : Dv).put ⟨#[120]⟩ [97, 98]).1
theorem dvX_put : Contract Tryz.prog 12 [.ptr 0 0 0 0, .val (.string ⟨#[120]⟩), .sl 1 ([97, 98].map bR)] [(⟨100, 0, true, [], -1⟩ : Dv).box 1, (⟨100, 0, true, [], -1⟩ : Dv).map] (I 0) [some (dvX.box 2), none, some dvX.map] := by
  have := cPut (⟨100, 0, true, [], -1⟩ : Dv) ⟨#[120]⟩ [97, 98] (newP_ok (by decide) (by decide)) (by decide) (by decide) (by decide)
  rwa [put_good sx_ne (by decide)] at this
theorem dvX_read : Contract Tryz.prog 18 [.ptr 0 0 0 0, .val (.string ⟨#[120]⟩)] [dvX.box 1, dvX.map] (.tup [.sl 1 ([97, 98].map bR), Bo true]) [some (dvX.box 1), some dvX.map] := by
  have hk : Ok (⟨100, 0, true, [], -1⟩ : Dv) := newP_ok (by decide) (by decide)
  have hko : Ok dvX := put_ok hk (by decide) (by decide) (by decide)
  rcases put_look (b := [97, 98]) hk sx_ne with ⟨_, h⟩ | ⟨h, _⟩
  · exact readC h hko
  · exact absurd (put_good sx_ne (by decide)) h
end Go.Proofs.YtinfjnnffmlpmaaGreatDoor

/- a shelf is alive. -/
namespace Go.Proofs.YtinfjnnffmlpmaaGreatDoor
open E
set_option maxRecDepth 100000
set_option linter.unusedVariables false
set_option linter.unusedSimpArgs false

theorem dig3 : (Lib.decDigits 3) = [51] := by rw [Lib.decDigits_one (by decide)]; rfl
theorem dig12 : (Lib.decDigits 12) = [49, 50] := by rw [Lib.decDigits_two (by decide) (by decide)]; rfl
theorem cBlock_0 (i : Nat) (hi : i < 100) : Contract Tryz.prog 19 [I (i : Int)] [] (Sg { data := { toList := (98 : UInt8) :: Lib.decDigits i } }) ([]) :=
  vcP hmix [.reg 1 [(1, [.call [] [] (.val (.string (⟨#[98]⟩ ++ ⟨(Lib.decDigits i).toArray⟩))) []], none)]] [] [
      Contract Tryz.prog (40 : Nat) [Sg { data := { toList := [(98 : UInt8)] } }, I (Int.ofNat i)] [] (Sg { data := { toList := (98 : UInt8) :: Lib.decDigits i } }) []] (by kernel_rfl)
    (by
      simp only [allP]
      and_intros <;> first
        | exact cNumbered _ i hi (by decide))

theorem cBlock (i : Nat) (hi : i < 100) : Contract Tryz.prog 19 [I (i : Int)] [] (.val (.string (⟨#[98]⟩ ++ ⟨(Lib.decDigits i).toArray⟩))) [] := by
  exact Contract.cast (by
    first
      | rfl) (by
    first
      | rfl) (cBlock_0 i hi )

theorem cSnap_0 (i : Nat) (hi : i < 100) : Contract Tryz.prog 20 [I (i : Int)] [] (Sg { data := { toList := (115 : UInt8) :: Lib.decDigits i } }) ([]) :=
  vcP hmix [.reg 1 [(1, [.call [] [] (.val (.string (⟨#[115]⟩ ++ ⟨(Lib.decDigits i).toArray⟩))) []], none)]] [] [
      Contract Tryz.prog (40 : Nat) [Sg { data := { toList := [(115 : UInt8)] } }, I (Int.ofNat i)] [] (Sg { data := { toList := (115 : UInt8) :: Lib.decDigits i } }) []] (by kernel_rfl)
    (by
      simp only [allP]
      and_intros <;> first
        | exact cNumbered _ i hi (by decide))

theorem cSnap (i : Nat) (hi : i < 100) : Contract Tryz.prog 20 [I (i : Int)] [] (.val (.string (⟨#[115]⟩ ++ ⟨(Lib.decDigits i).toArray⟩))) [] := by
  exact Contract.cast (by
    first
      | rfl) (by
    first
      | rfl) (cSnap_0 i hi )

theorem cBlock3 : Contract Tryz.prog 19 [I 3] [] (.val (.string ⟨#[98, 51]⟩)) [] := by
  have := cBlock 3 (by decide)
  rw [dig3] at this
  exact this
theorem cSnap12 : Contract Tryz.prog 20 [I 12] [] (.val (.string ⟨#[115, 49, 50]⟩)) [] := by
  have := cSnap 12 (by decide)
  rw [dig12] at this
  exact this
theorem cAlive0_0 (x : Dv) (h1 : Contract Tryz.prog 12 [.ptr 0 0 0 0, .val (.string ⟨#[120]⟩), .sl 1 ([97, 98].map bR)] [(⟨100, 0, true, [], -1⟩ : Dv).box 1, (⟨100, 0, true, [], -1⟩ : Dv).map] (I 0) [some (x.box 2), none, some x.map]) (h2 : Contract Tryz.prog 18 [.ptr 0 0 0 0, .val (.string ⟨#[120]⟩)] [x.box 1, x.map] (.tup [.sl 1 ([97, 98].map bR), Bo true]) [some (x.box 1), some x.map]) : Contract Tryz.prog 4 [] [] (Bo true) ([]) :=
  vcP hmix [.reg 1 [(0, [.call [] [] (.ptr 0 0 0 0) [some ((⟨100, 0, true, [], -1⟩ : Dv).box 1), some (⟨100, 0, true, [], -1⟩ : Dv).map]], none)], .reg 2 [(3, [.call [201001, 201002] [] (I 0) [some (x.box 2), none, some x.map]], none)], .reg 5 [(1, [.call [201001, 404001] [] (.tup [.sl 1 ([97, 98].map bR), Bo true]) [some (x.box 1), some x.map]], none)], .reg 6 [(1, [.call [] [] (I 0) []], none), (8, [.str ⟨#[97, 98]⟩], none), (9, [], some true), (12, [.call [] [] (.val (.string ⟨#[98, 51]⟩)) []], none), (13, [], some true), (16, [.call [] [] (.val (.string ⟨#[115, 49, 50]⟩)) []], none), (17, [], some true)]] [] [
      Contract Tryz.prog (6 : Nat) [I (100 : Int)] [] (V.ptr (0 : Nat) (0 : Nat) (0 : Nat) (0 : Nat)) [some (Obj.box [I (100 : Int), I (0 : Int), V.val (Value.int IntKind.u32 (0 : Int)), V.val (Value.int IntKind.i32 (0 : Int)), V.val (Value.int IntKind.u32 (0 : Int)), V.mref (1 : Nat), I (-1 : Int)]), some (Obj.nest (Nest.mp true (mE [])) [])],
      [[V.val (Value.int IntKind.u8 (97 : Int))], [V.val (Value.int IntKind.u8 (98 : Int))]] ≠ [],
      Contract Tryz.prog (12 : Nat) [V.ptr (0 : Nat) (0 : Nat) (0 : Nat) (0 : Nat), Sg { data := { toList := [(120 : UInt8)] } }, V.sl (1 : Nat) [[V.val (Value.int IntKind.u8 (97 : Int))], [V.val (Value.int IntKind.u8 (98 : Int))]]] [Obj.box [I (100 : Int), I (0 : Int), V.val (Value.int IntKind.u32 (0 : Int)), V.val (Value.int IntKind.i32 (0 : Int)), V.val (Value.int IntKind.u32 (0 : Int)), V.mref (1 : Nat), I (-1 : Int)], Obj.nest (Nest.mp true (mE [])) []] (I (0 : Int)) [some (Obj.box [I (Dv.room x), I (Dv.used x), V.val (Value.int IntKind.u32 (bif Dv.nl x then (0 : Int) else (1 : Int))), V.val (Value.int IntKind.i32 (0 : Int)), V.val (Value.int IntKind.u32 (0 : Int)), V.mref (2 : Nat), I (Dv.fuse x)]), none, some (Obj.nest (Nest.mp (Dv.nl x) (mE (Dv.fs x))) [])],
      Contract Tryz.prog (18 : Nat) [V.ptr (0 : Nat) (0 : Nat) (0 : Nat) (0 : Nat), Sg { data := { toList := [(120 : UInt8)] } }] [Obj.box [I (Dv.room x), I (Dv.used x), V.val (Value.int IntKind.u32 (bif Dv.nl x then (0 : Int) else (1 : Int))), V.val (Value.int IntKind.i32 (0 : Int)), V.val (Value.int IntKind.u32 (0 : Int)), V.mref (1 : Nat), I (Dv.fuse x)], Obj.nest (Nest.mp (Dv.nl x) (mE (Dv.fs x))) []] (V.tup [V.sl (1 : Nat) [bR (97 : UInt8), bR (98 : UInt8)], Bo true]) [some (Obj.box [I (Dv.room x), I (Dv.used x), V.val (Value.int IntKind.u32 (bif Dv.nl x then (0 : Int) else (1 : Int))), V.val (Value.int IntKind.i32 (0 : Int)), V.val (Value.int IntKind.u32 (0 : Int)), V.mref (1 : Nat), I (Dv.fuse x)]), some (Obj.nest (Nest.mp (Dv.nl x) (mE (Dv.fs x))) [])],
      Contract Tryz.prog (14 : Nat) [I (0 : Int)] [] (I (0 : Int)) [],
      [bR (97 : UInt8), bR (98 : UInt8)] = [[V.val (Value.int IntKind.u8 (97 : Int))], [V.val (Value.int IntKind.u8 (98 : Int))]],
      true = true,
      Contract Tryz.prog (19 : Nat) [I (3 : Int)] [] (Sg { data := { toList := [(98 : UInt8), (51 : UInt8)] } }) [],
      true = true,
      Contract Tryz.prog (20 : Nat) [I (12 : Int)] [] (Sg { data := { toList := [(115 : UInt8), (49 : UInt8), (50 : UInt8)] } }) [],
      true = true] (by kernel_rfl)
    (by
      simp only [allP]
      and_intros <;> first
        | exact cNewP 100 (by decide)
        | exact h1
        | exact h2
        | exact cNum 0
        | exact cBlock3
        | exact cSnap12
        | exact List.cons_ne_nil _ _
        | rfl
        | (simp; done))

theorem cAlive0 (x : Dv) (h1 : Contract Tryz.prog 12 [.ptr 0 0 0 0, .val (.string ⟨#[120]⟩), .sl 1 ([97, 98].map bR)] [(⟨100, 0, true, [], -1⟩ : Dv).box 1, (⟨100, 0, true, [], -1⟩ : Dv).map] (I 0) [some (x.box 2), none, some x.map]) (h2 : Contract Tryz.prog 18 [.ptr 0 0 0 0, .val (.string ⟨#[120]⟩)] [x.box 1, x.map] (.tup [.sl 1 ([97, 98].map bR), Bo true]) [some (x.box 1), some x.map]) : Contract Tryz.prog 4 [] [] (Bo true) [] := by
  exact Contract.cast (by
    first
      | rfl) (by
    first
      | rfl) (cAlive0_0 x h1 h2 )

theorem cAlive : Contract Tryz.prog 4 [] [] (Bo true) [] := cAlive0 dvX dvX_put dvX_read
end Go.Proofs.YtinfjnnffmlpmaaGreatDoor

/- Slices behind a variable: under another name, no more spoken of, new where there was none. -/
namespace Go.Proofs.YtinfjnnffmlpmaaGreatDoor.E
open Go
set_option linter.unusedSimpArgs false

/-- What is said of the second object need not be said. -/
theorem Contract.drop1 {P : Program} {f : FuncId} {args : List V} {objs : List E.Obj} {r : V} {a o : Option E.Obj} {os : List (Option E.Obj)} (h : Contract P f args objs r (a :: o :: os)) : Contract P f args objs r (a :: none :: os) := by
  refine ⟨h.goes, fun w G X τ vals hm hX ha => Calls.mono (h.calls w G X τ vals hm hX ha) ?_⟩
  rintro e w' ⟨v, G', τ', rfl, h1, h2, h3, h4⟩
  have sub : ∀ i p, objsAt' (a :: none :: os) i = some p → objsAt' (a :: o :: os) i = some p := by
    intro i p hp
    match i, hp with
    | 0, hp => simpa [objsAt'] using hp
    | 1, hp => simp [objsAt'] at hp
    | i + 2, hp => simpa [objsAt'] using hp
  exact ⟨v, G', τ', rfl, h1, h2, h3, h4.gold, fun i p hp => h4.ok i p (sub i p hp), fun i p b hp => h4.own i p b (sub i p hp), fun i j p q b hp hq => h4.inj i j p q b (sub i p hp) (sub j q hq), Sub.less h4.sub (fun i p hp _ => sub i p hp) (fun i p hp => ⟨p, sub i p hp⟩)⟩

/-- A box whose cell names slice 1 names slice 2, which is the same. -/
theorem Contract.renArr {P : Program} {f : FuncId} {args : List V} {objs : List E.Obj} {r : V} {cells cells' : List V} {n : Nat} {rows : List (List V)} (hlen : objs.length = 2)
    (h : Contract P f args objs r [some (.box cells), some (.arr n rows)])
    (hr : ∀ {w : World} {G : Nat → Prop} {τ τ' : Nat → Gh} {x : Value}, τ' 0 = τ 0 → τ' 2 = τ 1 → r.rep w G τ x → r.rep w G τ' x)
    (hc : ∀ {w : World} {G : Nat → Prop} {τ τ' : Nat → Gh} {xs : List Value}, τ' 0 = τ 0 → τ' 2 = τ 1 → repL w G τ cells xs → repL w G τ' cells' xs) :
    Contract P f args objs r [some (.box cells'), none, some (.arr n rows)] := by
  refine ⟨h.goes, fun w G X τ vals hm hX ha => Calls.mono (h.calls w G X τ vals hm hX ha) ?_⟩
  rintro e w' ⟨v, G', τ', rfl, h1, h2, h3, h4⟩
  have e0 : setGh τ' 2 (τ' 1) 0 = τ' 0 := setGh_ne (by omega)
  have e2 : setGh τ' 2 (τ' 1) 2 = τ' 1 := setGh_same
  have hcase : ∀ i o, objsAt' [some (.box cells'), none, some (.arr n rows)] i = some o → (i = 0 ∧ o = .box cells') ∨ (i = 2 ∧ o = .arr n rows) := by
    intro i o ho
    match i, ho with
    | 0, ho => left; simp [objsAt'] at ho; exact ⟨rfl, ho.symm⟩
    | 1, ho => simp [objsAt'] at ho
    | 2, ho => right; simp [objsAt'] at ho; exact ⟨rfl, ho.symm⟩
    | i + 3, ho => simp [objsAt'] at ho
  refine ⟨v, G', setGh τ' 2 (τ' 1), rfl, h1, fun i hi => ?_, hr e0 e2 h3, ?_⟩
  · rw [setGh_ne (by omega)]; exact h2 i hi
  · refine Mem.rename (fun i => if i = 2 then 1 else i) h4 (fun i o ho => ?_) (fun i o ho hp => ?_) (fun i j o p ho hp he => ?_)
    · rcases hcase i o ho with ⟨rfl, rfl⟩ | ⟨rfl, rfl⟩
      · refine ⟨⟨_, rfl⟩, e0, ?_⟩
        have := h4.ok 0 _ rfl
        simp only [Obj.ok, e0] at this ⊢
        obtain ⟨b, xs, t, fz, k1, k2, k3, k4, k5⟩ := this
        exact ⟨b, xs, t, fz, k1, k2, k3, k4, hc e0 e2 k5⟩
      · refine ⟨⟨_, rfl⟩, e2, ?_⟩
        exact Obj.ok_name rfl e2 (h4.ok 1 _ rfl)
    · rcases hcase i o ho with ⟨rfl, rfl⟩ | ⟨rfl, rfl⟩
      · cases hp
      · cases hp
    · rcases hcase i o ho with ⟨rfl, rfl⟩ | ⟨rfl, rfl⟩ <;> rcases hcase j p hp with ⟨rfl, rfl⟩ | ⟨rfl, rfl⟩ <;> simp at he ⊢

/-- A new box with a slice that is nil: the slice gets a name. -/
theorem Contract.nilSl {P : Program} {f : FuncId} {args : List V} {r : V} {cells cells' : List V} {n : Nat}
    (h : Contract P f args [] r [some (.box cells)])
    (hr : ∀ {w : World} {G : Nat → Prop} {τ τ' : Nat → Gh} {x : Value}, τ' 0 = τ 0 → r.rep w G τ x → r.rep w G τ' x) (hid : ∀ j ∈ idsL cells, j = 0)
    (hc : ∀ {w : World} {G : Nat → Prop} {τ τ' : Nat → Gh} {xs : List Value}, τ' 0 = τ 0 → (τ' 1).hdr = .slice none 0 0 → repL w G τ cells xs → repL w G τ' cells' xs) :
    Contract P f args [] r [some (.box cells'), some (.arr n [])] := by
  refine ⟨h.goes, fun w G X τ vals hm hX ha => Calls.mono (h.calls w G X τ vals hm hX ha) ?_⟩
  rintro e w' ⟨v, G', τ', rfl, h1, h2, h3, h4⟩
  have e0 : setGh τ' 1 ⟨none, none, 0, 0⟩ 0 = τ' 0 := setGh_ne (by omega)
  have e1 : (setGh τ' 1 ⟨none, none, 0, 0⟩ 1).hdr = .slice none 0 0 := by rw [setGh_same]; rfl
  have hcl : Closed [0] (objsAt' [some (.box cells)]) := by
    intro i o ho
    match i, ho with
    | 0, ho => simp [objsAt'] at ho; subst ho; exact ⟨by simp, fun j hj => by simp [hid j (by simpa [idsObj] using hj)]⟩
    | i + 1, ho => simp [objsAt'] at ho
  obtain ⟨σ, hσ⟩ := h4.sub
  have m1 := (Mem.adopt (site := 1) (g := ⟨none, none, 0, 0⟩) h4 hσ hcl (by simp) (o := E.Obj.arr n []) (by simp only [Obj.ok, rowsOk, setGh_same]; exact ⟨rfl, Nat.le_refl _, .inl ⟨trivial, trivial, trivial⟩⟩) rfl (fun b hb => by simp at hb)).1
  have hcase : ∀ i o, objsAt' [some (.box cells'), some (.arr n [])] i = some o → (i = 0 ∧ o = .box cells') ∨ (i = 1 ∧ o = .arr n []) := by
    intro i o ho
    match i, ho with
    | 0, ho => left; simp [objsAt'] at ho; exact ⟨rfl, ho.symm⟩
    | 1, ho => right; simp [objsAt'] at ho; exact ⟨rfl, ho.symm⟩
    | i + 2, ho => simp [objsAt'] at ho
  refine ⟨v, G', setGh τ' 1 ⟨none, none, 0, 0⟩, rfl, h1, fun i hi => by simp at hi, hr e0 h3, ?_⟩
  refine Mem.rename (fun i => i) m1 (fun i o ho => ?_) (fun i o ho hp => ?_) (fun i j o p _ _ he => he)
  · rcases hcase i o ho with ⟨rfl, rfl⟩ | ⟨rfl, rfl⟩
    · refine ⟨⟨_, rfl⟩, rfl, ?_⟩
      have := h4.ok 0 _ rfl
      simp only [Obj.ok, e0] at this ⊢
      obtain ⟨b, xs, t, fz, k1, k2, k3, k4, k5⟩ := this
      exact ⟨b, xs, t, fz, k1, k2, k3, k4, hc e0 e1 k5⟩
    · exact ⟨⟨_, rfl⟩, rfl, m1.ok 1 _ rfl⟩
  · rcases hcase i o ho with ⟨rfl, rfl⟩ | ⟨rfl, rfl⟩
    · cases hp
    · cases hp
end Go.Proofs.YtinfjnnffmlpmaaGreatDoor.E

/- the reference's device: what only looks. -/
namespace Go.Proofs.YtinfjnnffmlpmaaGreatDoor
open E
set_option maxRecDepth 100000
set_option linter.unusedVariables false
set_option linter.unusedSimpArgs false

structure Rv where
  room : Int
  fuse : Int
  F : Fs
def Rv.box (r : Rv) (m : Nat) : E.Obj := .box [I r.room, I r.fuse, .own m]
def Rv.arr (r : Rv) : E.Obj := .arr 3 (r.F.map fR)
def Rv.went (r : Rv) : Rv := { r with fuse := bif decide (r.fuse > 0) then r.fuse - 1 else r.fuse }
def fnS (r : Rv) (s : ByteArray) (i : Nat) : SL := ⟨[(0, .ptr 0 0 0 0), (1, .val (.string s)), (5, I i)], [(0, r.box 1), (1, r.arr)], [0, 1, 0, 1]⟩
def fnT (r : Rv) (i : Nat) : SL := ⟨[(4, I i)], [(0, r.box 1), (1, r.arr)], [0, 1, 0, 1]⟩
def usS (r : Rv) (a i : Nat) : SL := ⟨[(0, .ptr 0 0 0 0), (3, I a), (4, I i)], [(0, r.box 1), (1, r.arr)], [0, 1, 0, 1]⟩
def capI (n lo hi : Int) : Int := bif decide (n < lo) then lo else bif decide (n > hi) then hi else n
noncomputable def fnB : Code := codeAt Tryz.prog 29 [true, false, true, false, false]

noncomputable def usB : Code := codeAt Tryz.prog 28 [true, true, false, true, false, false]

theorem cCap_0 (n lo hi : Int)  (tq0 : (decide (n < lo)) = true) : Contract Tryz.prog 21 [I n, I lo, I hi] [] (I lo) ([]) :=
  vcP hmix [.reg 1 [(3, [], some true)]] [] [
      decide (n < lo) = true] (by kernel_rfl)
    (by
      have d0 := tq0
      try simp only [Int.ofNat_eq_natCast, List.length_map, Bool.not_eq_true', Bool.not_eq_false', decide_eq_true_eq, decide_eq_false_iff_not] at d0
      simp only [allP]
      and_intros <;> first
        | omega)

theorem cCap_1 (n lo hi : Int)  (tq0 : (decide (n < lo)) = false) (tq1 : (decide (n > hi)) = true) : Contract Tryz.prog 21 [I n, I lo, I hi] [] (I hi) ([]) :=
  vcP hmix [.reg 1 [(3, [], some false)], .reg 3 [(3, [], some true)]] [] [
      decide (n < lo) = false,
      decide (n > hi) = true] (by kernel_rfl)
    (by
      have d0 := tq0
      have d1 := tq1
      try simp only [Int.ofNat_eq_natCast, List.length_map, Bool.not_eq_true', Bool.not_eq_false', decide_eq_true_eq, decide_eq_false_iff_not] at d0 d1
      simp only [allP]
      and_intros <;> first
        | omega)

theorem cCap_2 (n lo hi : Int)  (tq0 : (decide (n < lo)) = false) (tq1 : (decide (n > hi)) = false) : Contract Tryz.prog 21 [I n, I lo, I hi] [] (I n) ([]) :=
  vcP hmix [.reg 1 [(3, [], some false)], .reg 3 [(3, [], some false)]] [] [
      decide (n < lo) = false,
      decide (n > hi) = false] (by kernel_rfl)
    (by
      have d0 := tq0
      have d1 := tq1
      try simp only [Int.ofNat_eq_natCast, List.length_map, Bool.not_eq_true', Bool.not_eq_false', decide_eq_true_eq, decide_eq_false_iff_not] at d0 d1
      simp only [allP]
      and_intros <;> first
        | omega)

theorem cCap (n lo hi : Int)  : Contract Tryz.prog 21 [I n, I lo, I hi] [] (I (capI n lo hi)) [] := by
  rcases tf (decide (n < lo)) with tq0 | tq0
  · exact Contract.cast (by
      first
        | (simp only [capI, tq0, cond_true, cond_false]; done)) (by
      first
        | rfl) (cCap_0 n lo hi  tq0)
  · rcases tf (decide (n > hi)) with tq1 | tq1
    · exact Contract.cast (by
        first
          | (simp only [capI, tq0, tq1, cond_true, cond_false]; done)) (by
        first
          | rfl) (cCap_1 n lo hi  tq0 tq1)
    · exact Contract.cast (by
        first
          | (simp only [capI, tq0, tq1, cond_true, cond_false]; done)) (by
        first
          | rfl) (cCap_2 n lo hi  tq0 tq1)

theorem cRWent_0 (r : Rv) (hf : r.fuse ≤ 9223372036854775807) (tq0 : (decide (Rv.fuse r > (0 : Int))) = true) : Contract Tryz.prog 30 [.ptr 0 0 0 0] [r.box 1, r.arr] (V.tup []) ([some (Obj.box [I (Rv.room r), I (Rv.fuse r + (-1 : Int)), V.own (1 : Nat)]), some (Obj.arr (3 : Nat) (List.map fR (Rv.F r)))]) :=
  vcP hmix [.reg 0 [(4, [], some true)], .reg 1 [(4, [.be (I (r.fuse - 1))], none)]] [] [
      decide (Rv.fuse r > (0 : Int)) = true,
      IntKind.wrap IntKind.i64 (Rv.fuse r + (-1 : Int)) = Rv.fuse r + (-1 : Int)] (by kernel_rfl)
    (by
      have d0 := tq0
      try simp only [Int.ofNat_eq_natCast, List.length_map, Bool.not_eq_true', Bool.not_eq_false', decide_eq_true_eq, decide_eq_false_iff_not] at d0
      simp only [allP]
      and_intros <;> first
        | omega
        | exact i64_small (by omega))

theorem cRWent_1 (r : Rv) (hf : r.fuse ≤ 9223372036854775807) (tq0 : (decide (Rv.fuse r > (0 : Int))) = false) : Contract Tryz.prog 30 [.ptr 0 0 0 0] [r.box 1, r.arr] (V.tup []) ([some (Obj.box [I (Rv.room r), I (Rv.fuse r), V.own (1 : Nat)]), some (Obj.arr (3 : Nat) (List.map fR (Rv.F r)))]) :=
  vcP hmix [.reg 0 [(4, [], some false)]] [] [
      decide (Rv.fuse r > (0 : Int)) = false] (by kernel_rfl)
    (by
      have d0 := tq0
      try simp only [Int.ofNat_eq_natCast, List.length_map, Bool.not_eq_true', Bool.not_eq_false', decide_eq_true_eq, decide_eq_false_iff_not] at d0
      simp only [allP]
      and_intros <;> first
        | omega)

theorem cRWent (r : Rv) (hf : r.fuse ≤ 9223372036854775807) : Contract Tryz.prog 30 [.ptr 0 0 0 0] [r.box 1, r.arr] (.tup []) [some (r.went.box 1), some r.went.arr] := by
  rcases tf (decide (Rv.fuse r > (0 : Int))) with tq0 | tq0
  · exact Contract.cast (by
      first
        | rfl) (by
      first
        | (simp only [Rv.went, Rv.box, Rv.arr, tq0, cond_true, cond_false]; rfl)) (cRWent_0 r hf tq0)
  · exact Contract.cast (by
      first
        | rfl) (by
      first
        | (simp only [Rv.went, Rv.box, Rv.arr, tq0, cond_true, cond_false]; done)) (cRWent_1 r hf tq0)

theorem fnG_0 (r : Rv) (s : ByteArray) (x : ByteArray × Fi) (i : Nat) (hx : r.F[i]? = some x) (hi : i < r.F.length) (hl : r.F.length ≤ 1000000000) (hb : (ByteArray.toList x.1 == ByteArray.toList s) = false) : CodeC Tryz.prog 2 26 fnB (fnS r s i) (Ex.normal) ({ env := [((0 : Nat), V.ptr (0 : Nat) (0 : Nat) (0 : Nat) (0 : Nat)), ((1 : Nat), Sg s), ((5 : Nat), I (Int.ofNat (i + (1 : Nat))))], st := [((0 : Nat), Obj.box [I (Rv.room r), I (Rv.fuse r), V.own (1 : Nat)]), ((1 : Nat), Obj.arr (3 : Nat) (List.map fR (Rv.F r)))], ids := [(0 : Nat), (1 : Nat), (0 : Nat), (1 : Nat)] }) :=
  runP hmix [.reg 2 [(6, [], some true)], .reg 4 [(7, [.row (fR x)], none), (9, [], some false)], .reg 3 [(1, [.be (I ((i + 1 : Nat) : Int))], none)]] ⟨[0, 1, 5], [(0, 0), (1, 1)], []⟩ [
      decide (Int.ofNat i < Int.ofNat (List.length (List.map fR (Rv.F r)))) = true,
      (0 : Int) ≤ Int.ofNat i,
      Int.ofNat i < Int.ofNat (List.length (List.map fR (Rv.F r))),
      (List.map fR (Rv.F r))[i]? = some (fR x),
      (ByteArray.toList (Prod.fst x) == ByteArray.toList s) = false,
      IntKind.wrap IntKind.i64 (Int.ofNat (i + (1 : Nat))) = Int.ofNat (i + (1 : Nat))] (by kernel_rfl)
    (by
      simp only [allP]
      and_intros <;> first
        | omega
        | exact i64_small (by simp; omega)
        | (simp [hx]; done)
        | (simp; omega))

theorem fnG (r : Rv) (s : ByteArray) (x : ByteArray × Fi) (i : Nat) (hx : r.F[i]? = some x) (hi : i < r.F.length) (hl : r.F.length ≤ 1000000000) (hb : (ByteArray.toList x.1 == ByteArray.toList s) = false)  : CodeC Tryz.prog 2 26 fnB (fnS r s i) .normal (fnS r s (i + 1)) := by
  exact CodeC.cast (by
    first
      | rfl) (fnG_0 r s x i hx hi hl hb )

theorem fnP_0 (r : Rv) (s : ByteArray) (x : ByteArray × Fi) (i : Nat) (hx : r.F[i]? = some x) (hi : i < r.F.length) (hl : r.F.length ≤ 1000000000) (hb : (ByteArray.toList x.1 == ByteArray.toList s) = true) : CodeC Tryz.prog 2 26 fnB (fnS r s i) (Ex.ret) ({ env := [((4 : Nat), I (Int.ofNat i))], st := [((0 : Nat), Obj.box [I (Rv.room r), I (Rv.fuse r), V.own (1 : Nat)]), ((1 : Nat), Obj.arr (3 : Nat) (List.map fR (Rv.F r)))], ids := [(0 : Nat), (1 : Nat), (0 : Nat), (1 : Nat)] }) :=
  runP hmix [.reg 2 [(6, [], some true)], .reg 4 [(7, [.row (fR x)], none), (9, [], some true)]] ⟨[4], [(0, 0), (1, 1)], []⟩ [
      decide (Int.ofNat i < Int.ofNat (List.length (List.map fR (Rv.F r)))) = true,
      (0 : Int) ≤ Int.ofNat i,
      Int.ofNat i < Int.ofNat (List.length (List.map fR (Rv.F r))),
      (List.map fR (Rv.F r))[i]? = some (fR x),
      (ByteArray.toList (Prod.fst x) == ByteArray.toList s) = true] (by kernel_rfl)
    (by
      simp only [allP]
      and_intros <;> first
        | omega
        | (simp [hx]; done)
        | (simp; omega))

theorem fnP (r : Rv) (s : ByteArray) (x : ByteArray × Fi) (i : Nat) (hx : r.F[i]? = some x) (hi : i < r.F.length) (hl : r.F.length ≤ 1000000000) (hb : (ByteArray.toList x.1 == ByteArray.toList s) = true)  : CodeC Tryz.prog 2 26 fnB (fnS r s i) .ret (fnT r i) := by
  exact CodeC.cast (by
    first
      | rfl) (fnP_0 r s x i hx hi hl hb )

theorem fnE_0 (r : Rv) (s : ByteArray) (i : Nat) (h : r.F.length ≤ i) : CodeC Tryz.prog 2 26 fnB (fnS r s i) (Ex.exit (0 : Nat)) ({ env := [((0 : Nat), V.ptr (0 : Nat) (0 : Nat) (0 : Nat) (0 : Nat)), ((1 : Nat), Sg s), ((5 : Nat), I (Int.ofNat i))], st := [((0 : Nat), Obj.box [I (Rv.room r), I (Rv.fuse r), V.own (1 : Nat)]), ((1 : Nat), Obj.arr (3 : Nat) (List.map fR (Rv.F r)))], ids := [(0 : Nat), (1 : Nat), (0 : Nat), (1 : Nat)] }) :=
  runP hmix [.reg 2 [(6, [], some false)]] ⟨[0, 1, 5], [(0, 0), (1, 1)], []⟩ [
      decide (Int.ofNat i < Int.ofNat (List.length (List.map fR (Rv.F r)))) = false] (by kernel_rfl)
    (by
      simp only [allP]
      and_intros <;> first
        | (simp; omega))

theorem fnE (r : Rv) (s : ByteArray) (i : Nat) (h : r.F.length ≤ i)  : CodeC Tryz.prog 2 26 fnB (fnS r s i) (.exit 0) (fnS r s i) := by
  exact CodeC.cast (by
    first
      | rfl) (fnE_0 r s i h )

theorem cFindA_0 (r : Rv) (s : ByteArray) (i : Nat) (hL : LoopC Tryz.prog 2 26 fnB (fnS r s 0) .ret (fnT r i)) : Contract Tryz.prog 29 [.ptr 0 0 0 0, .val (.string s)] [r.box 1, r.arr] (I (Int.ofNat i)) ([some (Obj.box [I (Rv.room r), I (Rv.fuse r), V.own (1 : Nat)]), some (Obj.arr (3 : Nat) (List.map fR (Rv.F r)))]) :=
  vcP hmix [.cut ⟨[0, 1, 5], [(0, 0), (1, 1)], []⟩ .ret (fnT r i)] [] [
      LoopC Tryz.prog (2 : Nat) (26 : Nat) fnB { env := [((0 : Nat), V.ptr (0 : Nat) (0 : Nat) (0 : Nat) (0 : Nat)), ((1 : Nat), Sg s), ((5 : Nat), I (0 : Int))], st := [((0 : Nat), Obj.box [I (Rv.room r), I (Rv.fuse r), V.own (1 : Nat)]), ((1 : Nat), Obj.arr (3 : Nat) (List.map fR (Rv.F r)))], ids := [(0 : Nat), (1 : Nat), (0 : Nat), (1 : Nat)] } Ex.ret { env := [((4 : Nat), I (Int.ofNat i))], st := [((0 : Nat), Obj.box [I (Rv.room r), I (Rv.fuse r), V.own (1 : Nat)]), ((1 : Nat), Obj.arr (3 : Nat) (List.map fR (Rv.F r)))], ids := [(0 : Nat), (1 : Nat), (0 : Nat), (1 : Nat)] }] (by kernel_rfl)
    (by
      simp only [allP]
      and_intros <;> first
        | exact hL)

theorem cFindA (r : Rv) (s : ByteArray) (i : Nat) (hL : LoopC Tryz.prog 2 26 fnB (fnS r s 0) .ret (fnT r i)) : Contract Tryz.prog 29 [.ptr 0 0 0 0, .val (.string s)] [r.box 1, r.arr] (I i) [some (r.box 1), some r.arr] := by
  exact Contract.cast (by
    first
      | rfl) (by
    first
      | rfl) (cFindA_0 r s i hL )

theorem cFindB_0 (r : Rv) (s : ByteArray) (i : Nat) (hL : LoopC Tryz.prog 2 26 fnB (fnS r s 0) (.exit 0) (fnS r s i)) : Contract Tryz.prog 29 [.ptr 0 0 0 0, .val (.string s)] [r.box 1, r.arr] (I (-1 : Int)) ([some (Obj.box [I (Rv.room r), I (Rv.fuse r), V.own (1 : Nat)]), some (Obj.arr (3 : Nat) (List.map fR (Rv.F r)))]) :=
  vcP hmix [.cut ⟨[0, 1, 5], [(0, 0), (1, 1)], []⟩ (.exit 0) (fnS r s i)] [] [
      LoopC Tryz.prog (2 : Nat) (26 : Nat) fnB { env := [((0 : Nat), V.ptr (0 : Nat) (0 : Nat) (0 : Nat) (0 : Nat)), ((1 : Nat), Sg s), ((5 : Nat), I (0 : Int))], st := [((0 : Nat), Obj.box [I (Rv.room r), I (Rv.fuse r), V.own (1 : Nat)]), ((1 : Nat), Obj.arr (3 : Nat) (List.map fR (Rv.F r)))], ids := [(0 : Nat), (1 : Nat), (0 : Nat), (1 : Nat)] } (Ex.exit (0 : Nat)) { env := [((0 : Nat), V.ptr (0 : Nat) (0 : Nat) (0 : Nat) (0 : Nat)), ((1 : Nat), Sg s), ((5 : Nat), I (Int.ofNat i))], st := [((0 : Nat), Obj.box [I (Rv.room r), I (Rv.fuse r), V.own (1 : Nat)]), ((1 : Nat), Obj.arr (3 : Nat) (List.map fR (Rv.F r)))], ids := [(0 : Nat), (1 : Nat), (0 : Nat), (1 : Nat)] }] (by kernel_rfl)
    (by
      simp only [allP]
      and_intros <;> first
        | exact hL)

theorem cFindB (r : Rv) (s : ByteArray) (i : Nat) (hL : LoopC Tryz.prog 2 26 fnB (fnS r s 0) (.exit 0) (fnS r s i)) : Contract Tryz.prog 29 [.ptr 0 0 0 0, .val (.string s)] [r.box 1, r.arr] (I (-1)) [some (r.box 1), some r.arr] := by
  exact Contract.cast (by
    first
      | rfl) (by
    first
      | rfl) (cFindB_0 r s i hL )

theorem usG_0 (r : Rv) (x : ByteArray × Fi) (a i : Nat) (hx : r.F[i]? = some x) (hi : i < r.F.length) (hl : r.F.length ≤ 1000000000) (ha : a ≤ 1000000000) (hb : x.2.bs.length ≤ 1000000000) : CodeC Tryz.prog 2 26 usB (usS r a i) (Ex.normal) ({ env := [((0 : Nat), V.ptr (0 : Nat) (0 : Nat) (0 : Nat) (0 : Nat)), ((3 : Nat), I (Int.ofNat (a + List.length (Fi.bs (Prod.snd x))))), ((4 : Nat), I (Int.ofNat (i + (1 : Nat))))], st := [((0 : Nat), Obj.box [I (Rv.room r), I (Rv.fuse r), V.own (1 : Nat)]), ((1 : Nat), Obj.arr (3 : Nat) (List.map fR (Rv.F r)))], ids := [(0 : Nat), (1 : Nat), (0 : Nat), (1 : Nat)] }) :=
  runP hmix [.reg 3 [(6, [], some true)], .reg 5 [(8, [.row (fR x)], none), (10, [.be (I ((a + x.2.bs.length : Nat) : Int))], none)], .reg 4 [(1, [.be (I ((i + 1 : Nat) : Int))], none)]] ⟨[0, 3, 4], [(0, 0), (1, 1)], []⟩ [
      decide (Int.ofNat i < Int.ofNat (List.length (List.map fR (Rv.F r)))) = true,
      (0 : Int) ≤ Int.ofNat i,
      Int.ofNat i < Int.ofNat (List.length (List.map fR (Rv.F r))),
      (List.map fR (Rv.F r))[i]? = some (fR x),
      IntKind.wrap IntKind.i64 (Int.ofNat (a + List.length (List.map bR (Fi.bs (Prod.snd x))))) = Int.ofNat (a + List.length (Fi.bs (Prod.snd x))),
      IntKind.wrap IntKind.i64 (Int.ofNat (i + (1 : Nat))) = Int.ofNat (i + (1 : Nat))] (by kernel_rfl)
    (by
      simp only [allP]
      and_intros <;> first
        | (rw [List.length_map]; exact i64_small (by simp only [Int.ofNat_eq_natCast]; omega))
        | exact i64_small (by simp; omega)
        | (simp [hx]; done)
        | (simp; omega))

theorem usG (r : Rv) (x : ByteArray × Fi) (a i : Nat) (hx : r.F[i]? = some x) (hi : i < r.F.length) (hl : r.F.length ≤ 1000000000) (ha : a ≤ 1000000000) (hb : x.2.bs.length ≤ 1000000000)  : CodeC Tryz.prog 2 26 usB (usS r a i) .normal (usS r (a + x.2.bs.length) (i + 1)) := by
  exact CodeC.cast (by
    first
      | rfl) (usG_0 r x a i hx hi hl ha hb )

theorem usE_0 (r : Rv) (a i : Nat) (h : r.F.length ≤ i) : CodeC Tryz.prog 2 26 usB (usS r a i) (Ex.exit (0 : Nat)) ({ env := [((0 : Nat), V.ptr (0 : Nat) (0 : Nat) (0 : Nat) (0 : Nat)), ((3 : Nat), I (Int.ofNat a)), ((4 : Nat), I (Int.ofNat i))], st := [((0 : Nat), Obj.box [I (Rv.room r), I (Rv.fuse r), V.own (1 : Nat)]), ((1 : Nat), Obj.arr (3 : Nat) (List.map fR (Rv.F r)))], ids := [(0 : Nat), (1 : Nat), (0 : Nat), (1 : Nat)] }) :=
  runP hmix [.reg 3 [(6, [], some false)]] ⟨[0, 3, 4], [(0, 0), (1, 1)], []⟩ [
      decide (Int.ofNat i < Int.ofNat (List.length (List.map fR (Rv.F r)))) = false] (by kernel_rfl)
    (by
      simp only [allP]
      and_intros <;> first
        | (simp; omega))

theorem usE (r : Rv) (a i : Nat) (h : r.F.length ≤ i)  : CodeC Tryz.prog 2 26 usB (usS r a i) (.exit 0) (usS r a i) := by
  exact CodeC.cast (by
    first
      | rfl) (usE_0 r a i h )

theorem cUsedA_0 (r : Rv) (a i : Nat) (hL : LoopC Tryz.prog 2 26 usB (usS r 0 0) (.exit 0) (usS r a i)) : Contract Tryz.prog 28 [.ptr 0 0 0 0] [r.box 1, r.arr] (I (Int.ofNat a)) ([some (Obj.box [I (Rv.room r), I (Rv.fuse r), V.own (1 : Nat)]), some (Obj.arr (3 : Nat) (List.map fR (Rv.F r)))]) :=
  vcP hmix [.cut ⟨[0, 3, 4], [(0, 0), (1, 1)], []⟩ (.exit 0) (usS r a i)] [] [
      LoopC Tryz.prog (2 : Nat) (26 : Nat) usB { env := [((0 : Nat), V.ptr (0 : Nat) (0 : Nat) (0 : Nat) (0 : Nat)), ((3 : Nat), I (0 : Int)), ((4 : Nat), I (0 : Int))], st := [((0 : Nat), Obj.box [I (Rv.room r), I (Rv.fuse r), V.own (1 : Nat)]), ((1 : Nat), Obj.arr (3 : Nat) (List.map fR (Rv.F r)))], ids := [(0 : Nat), (1 : Nat), (0 : Nat), (1 : Nat)] } (Ex.exit (0 : Nat)) { env := [((0 : Nat), V.ptr (0 : Nat) (0 : Nat) (0 : Nat) (0 : Nat)), ((3 : Nat), I (Int.ofNat a)), ((4 : Nat), I (Int.ofNat i))], st := [((0 : Nat), Obj.box [I (Rv.room r), I (Rv.fuse r), V.own (1 : Nat)]), ((1 : Nat), Obj.arr (3 : Nat) (List.map fR (Rv.F r)))], ids := [(0 : Nat), (1 : Nat), (0 : Nat), (1 : Nat)] }] (by kernel_rfl)
    (by
      simp only [allP]
      and_intros <;> first
        | exact hL)

theorem cUsedA (r : Rv) (a i : Nat) (hL : LoopC Tryz.prog 2 26 usB (usS r 0 0) (.exit 0) (usS r a i)) : Contract Tryz.prog 28 [.ptr 0 0 0 0] [r.box 1, r.arr] (I a) [some (r.box 1), some r.arr] := by
  exact Contract.cast (by
    first
      | rfl) (by
    first
      | rfl) (cUsedA_0 r a i hL )

theorem fnLoopA (r : Rv) (s : ByteArray) (k : Nat) (hk : fat r.F s = some k) (hl : r.F.length ≤ 1000000000) : ∀ (m i : Nat), i + m = k → LoopC Tryz.prog 2 26 fnB (fnS r s i) .ret (fnT r k)
  | 0, i, h => by
    have : i = k := by omega
    subst this
    obtain ⟨f, h1, _⟩ := fat_some hk
    exact LoopC.last (fnP r s (s, f) i h1 (List.getElem?_eq_some_iff.1 h1).1 hl (by simp)) (by simp)
  | m + 1, i, h => by
    obtain ⟨f, h1, _⟩ := fat_some hk
    have hlt := (List.getElem?_eq_some_iff.1 h1).1
    have hi : i < r.F.length := by omega
    have hne : (s == r.F[i].1) = false := by
      have := (List.findIdx?_eq_some_iff_getElem.1 hk).2.2 i (by omega)
      simpa using this
    refine LoopC.next (fnG r s r.F[i] i (List.getElem?_eq_getElem hi) hi hl ?_) (fnLoopA r s k hk hl m (i + 1) (by omega))
    rw [beq_eq_false_iff_ne] at hne ⊢
    exact fun e => hne (toList_inj e).symm
theorem fnLoopB (r : Rv) (s : ByteArray) (hk : fat r.F s = none) (hl : r.F.length ≤ 1000000000) : ∀ (m i : Nat), i + m = r.F.length → LoopC Tryz.prog 2 26 fnB (fnS r s i) (.exit 0) (fnS r s r.F.length)
  | 0, i, h => by
    have : i = r.F.length := by omega
    subst this
    exact LoopC.last (fnE r s _ (Nat.le_refl _)) (by simp)
  | m + 1, i, h => by
    have hi : i < r.F.length := by omega
    have hne : (s == r.F[i].1) = false := by
      have := List.findIdx?_eq_none_iff.1 hk r.F[i] (List.getElem_mem hi)
      simpa using this
    refine LoopC.next (fnG r s r.F[i] i (List.getElem?_eq_getElem hi) hi hl ?_) (fnLoopB r s hk hl m (i + 1) (by omega))
    rw [beq_eq_false_iff_ne] at hne ⊢
    exact fun e => hne (toList_inj e).symm
theorem cRFindA (r : Rv) (s : ByteArray) (k : Nat) (hk : fat r.F s = some k) (hl : r.F.length ≤ 1000000000) : Contract Tryz.prog 29 [.ptr 0 0 0 0, .val (.string s)] [r.box 1, r.arr] (I k) [some (r.box 1), some r.arr] := cFindA r s k (fnLoopA r s k hk hl k 0 (by omega))
theorem cRFindB (r : Rv) (s : ByteArray) (hk : fat r.F s = none) (hl : r.F.length ≤ 1000000000) : Contract Tryz.prog 29 [.ptr 0 0 0 0, .val (.string s)] [r.box 1, r.arr] (I (-1)) [some (r.box 1), some r.arr] := cFindB r s _ (fnLoopB r s hk hl r.F.length 0 (by omega))
theorem tot_take (F : Fs) {i : Nat} {x : ByteArray × Fi} (hx : F[i]? = some x) : tot (F.take (i + 1)) = tot (F.take i) + x.2.bs.length := by
  rw [List.take_add_one, hx, Option.toList_some, tot_app]; simp [tot]
theorem tot_take_le (F : Fs) (i : Nat) : tot (F.take i) ≤ tot F := by
  have : tot (F.take i ++ F.drop i) = _ := tot_app _ _
  rw [List.take_append_drop] at this; omega
theorem cRUsed (r : Rv) (hl : r.F.length ≤ 1000000000) (ht : tot r.F ≤ 1000000000) : Contract Tryz.prog 28 [.ptr 0 0 0 0] [r.box 1, r.arr] (I ((tot r.F : Nat) : Int)) [some (r.box 1), some r.arr] := by
  refine cUsedA r (tot r.F) r.F.length ?_
  have key : ∀ (m i : Nat), i + m = r.F.length → LoopC Tryz.prog 2 26 usB (usS r (tot (r.F.take i)) i) (.exit 0) (usS r (tot r.F) r.F.length) := by
    intro m
    induction m with
    | zero =>
      intro i h
      have : i = r.F.length := by omega
      subst this
      rw [List.take_length]
      exact LoopC.last (usE r _ _ (Nat.le_refl _)) (by simp)
    | succ m ih =>
      intro i h
      have hi : i < r.F.length := by omega
      have hx := List.getElem?_eq_getElem hi
      have h1 := tot_take_le r.F i
      have h2 := tot_take_le r.F (i + 1)
      have h3 := tot_take r.F hx
      have := usG r r.F[i] (tot (r.F.take i)) i hx hi hl (by omega) (by omega)
      rw [← h3] at this
      exact LoopC.next this (ih (i + 1) (by omega))
  exact key r.F.length 0 (by omega)

end Go.Proofs.YtinfjnnffmlpmaaGreatDoor

