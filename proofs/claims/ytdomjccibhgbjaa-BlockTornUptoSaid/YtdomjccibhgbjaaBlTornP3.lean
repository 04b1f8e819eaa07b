/- What all texts of a seat use. -/
import Derived.Test.YtdomjccibhgbjaaChecked
import Derived.Laws.Strings
import Derived.Test.YtdomjccibhgbjaaBlTornP2
namespace Go.Proofs.Ytdomjccibhgbjaa
open E
set_option maxRecDepth 100000

theorem hmix : Try.prog.follows .mixedOrders = true := by kernel_rfl

def U (n : Int) : V := .val (.int .u64 n)
end Go.Proofs.Ytdomjccibhgbjaa

/- Lists whose elements are all right, by their places. -/
namespace Go.Proofs.Ytdomjccibhgbjaa
open E
/-- No element is bad at its place. -/
def allI {α : Type} (bad : Nat → α → Bool) (l : List α) : Bool := (List.range l.length).all fun i => match l[i]? with
  | some a => !bad i a
  | none => true
theorem allI_bad {α : Type} {bad : Nat → α → Bool} {l : List α} {i : Nat} {x : α} (h : l[i]? = some x) (hb : bad i x = true) : allI bad l = false := by
  unfold allI
  rw [List.all_eq_false]
  exact ⟨i, List.mem_range.2 (List.getElem?_eq_some_iff.1 h).1, by rw [h]; simp [hb]⟩
theorem allI_good {α : Type} {bad : Nat → α → Bool} {l : List α} (h : ∀ (i : Nat) (x : α), l[i]? = some x → bad i x = false) : allI bad l = true := by
  unfold allI
  rw [List.all_eq_true]
  intro i hi
  cases hx : l[i]? with
  | none => rfl
  | some a => simp [h i a hx]
theorem allI_iff {α : Type} {bad : Nat → α → Bool} {l : List α} : allI bad l = true ↔ ∀ (i : Nat) (x : α), l[i]? = some x → bad i x = false := by
  constructor
  · intro h i x hx
    cases hb : bad i x with
    | false => rfl
    | true => rw [allI_bad hx hb] at h; cases h
  · exact allI_good
/-- A search that ends one way or the other, as a Bool. -/
theorem allI_all {α : Type} {p : α → Bool} {l : List α} : allI (fun _ x => !p x) l = l.all p := by
  cases h : l.all p with
  | true =>
    rw [List.all_eq_true] at h
    exact allI_good fun i x hx => by rw [h x (List.mem_of_getElem? hx)]; rfl
  | false =>
    rw [List.all_eq_false] at h
    obtain ⟨x, hx, hp⟩ := h
    obtain ⟨i, hi⟩ := List.getElem?_of_mem hx
    exact allI_bad hi (by simpa using hp)
/-- A loop that goes through a list and keeps its frame. -/
theorem LoopC.pass {P : Program} {k n : Nat} {c : Code} {α : Type} (l : List α) (S : Nat → SL) {e : Ex} (he : e ≠ .normal)
    (hround : ∀ (i : Nat) (x : α), l[i]? = some x → i < l.length → CodeC P k n c (S i) .normal (S (i + 1)))
    (hend : CodeC P k n c (S l.length) e (S l.length)) : LoopC P k n c (S 0) e (S l.length) := by
  have key : ∀ m i, i + m = l.length → LoopC P k n c (S i) e (S l.length) := by
    intro m
    induction m with
    | zero => intro i h; have : i = l.length := by omega
              subst this; exact LoopC.last hend he
    | succ m ih => intro i h; exact LoopC.next (hround i l[i] (List.getElem?_eq_getElem (by omega)) (by omega)) (ih (i + 1) (by omega))
  exact key l.length 0 (by omega)
theorem baBeq (a b : ByteArray) : (a == b) = (a.data == b.data) := rfl
instance : LawfulBEq ByteArray where
  rfl {a} := by rw [baBeq]; simp
  eq_of_beq {a b} h := by
    rw [baBeq] at h
    cases a; cases b
    simp at h
    rw [h]
end Go.Proofs.Ytdomjccibhgbjaa

/- numbers, written. -/
namespace Go.Proofs.Ytdomjccibhgbjaa
open E
set_option maxRecDepth 100000
set_option linter.unusedVariables false
set_option linter.unusedSimpArgs false

/-- A byte in a slice. -/
def bR (b : UInt8) : List V := intRow .u8 b.toNat
def vintF : Nat → Nat → List UInt8
  | 0, n => [UInt8.ofNat n]
  | k + 1, n => bif decide (n < 128) then [UInt8.ofNat n] else UInt8.ofNat (n % 128 + 128) :: vintF k (n / 128)
/-- How a number is written. -/
def vint (n : Nat) : List UInt8 := vintF 9 n
def vintI (n : Int) : List UInt8 := vint n.toNat
def isU (n : Int) : Prop := 0 ≤ n ∧ n < 18446744073709551616
def uRow (n : Int) : List V := [U n]
def iRow (n : Int) : List V := [I n]
def sRow (s : ByteArray) : List V := [Sg s]
def wiS (R : List UInt8) (l : List Int) (i : Nat) : SL := ⟨[(0, .ptr 0 0 0 0), (6, .sl 1 (l.map uRow)), (7, I (l.length : Int)), (8, I (i : Int))], [(0, .box [.own 900]), (900, .arr 1 (R.map bR))], [0, 900, 0, 1]⟩
def wjS (R : List UInt8) (l : List Int) (i n : Nat) : SL := ⟨[(0, .ptr 0 0 0 0), (5, U (n : Int)), (6, .sl 1 (l.map uRow)), (7, I (l.length : Int)), (8, I (i : Int))], [(0, .box [.own 900]), (900, .arr 1 (R.map bR))], [0, 900, 0, 1]⟩
noncomputable def wiB : Code := codeAt Try.prog 48 [true, false, false]

noncomputable def wjB : Code := codeAt Try.prog 48 [true, false, false, true, true, false, false, true, false, false, false]

theorem b8 {n : Nat} (h : n < 256) : bR (UInt8.ofNat n) = [.val (.int .u8 (n : Int))] := by
  unfold bR intRow
  rw [UInt8.toNat_ofNat', Nat.mod_eq_of_lt h]
theorem or128a : ∀ m : Fin 256, (m.val ||| 128) % 256 = m.val % 128 + 128 := by decide
theorem or128 (n : Nat) : [V.val (Value.int IntKind.u8 (Int.ofNat (((n % 256 % 256) ||| 128) % 256)))] = bR (UInt8.ofNat (n % 128 + 128)) := by
  have h := or128a ⟨n % 256 % 256, Nat.mod_lt _ (by decide)⟩
  rw [b8 (by omega)]
  simp only at h
  rw [h]
  simp
theorem bmod (n : Nat) (h : n < 128) : [V.val (Value.int IntKind.u8 (Int.ofNat (n % 256)))] = bR (UInt8.ofNat n) := by
  rw [b8 (by omega), Nat.mod_eq_of_lt (by omega)]
  rfl
theorem u8_mod (n : Nat) : IntKind.u8.wrap (n : Int) = ((n % 256 : Nat) : Int) := by
  simp only [IntKind.wrap, IntKind.signed, IntKind.bits]
  simp
theorem u64_mod {n : Int} (h : isU n) : IntKind.u64.wrap n = n := by
  unfold isU at h
  simp only [IntKind.wrap, IntKind.signed, IntKind.bits]
  simp
  omega
theorem vintF_len : ∀ k n, (vintF k n).length ≤ k + 1
  | 0, n => by simp [vintF]
  | k + 1, n => by
    unfold vintF
    cases decide (n < 128) with
    | true => simp
    | false => simp; exact vintF_len k _
theorem vintI_len (n : Int) : (vintI n).length ≤ 10 := vintF_len 9 _
theorem wjGo (R : List UInt8) (l : List Int) (i n : Nat) (hR : R.length ≤ 100000000) (hn : n < 18446744073709551616) (hb : 128 ≤ n)  : CodeC Try.prog 2 40 wjB (wjS R l i n) .normal (wjS (R ++ [UInt8.ofNat (n % 128 + 128)]) l i (n / 128)) :=
 runS hmix [.reg 3 [(1, [], some true)], .reg 5 [(9, [.beO ((R ++ [UInt8.ofNat (n % 128 + 128)]).map bR)], none)], .reg 4 [(1, [.be (U ((n / 128 : Nat) : Int))], none)]] ⟨[0, 5, 6, 7, 8], [(0, 0), (1010000, 900)], []⟩ [⟨(by simp; omega : decide (Int.ofNat n ≥ 128) = true)⟩, ⟨(by simp; omega : (List.length (List.map bR R) + 1) * 1 ≤ 140737488355328)⟩, ⟨(by rw [List.map_append]; exact congrArg _ (congrArg (fun r => [r]) (or128 n)) : List.map bR R ++ [[V.val (Value.int IntKind.u8 (Int.ofNat (((n % 256 % 256) ||| 128) % 256)))]] = List.map bR (R ++ [UInt8.ofNat (n % 128 + 128)]))⟩, ⟨(by rw [Int.fdiv_eq_ediv_of_nonneg _ (by decide)]; rfl : Int.fdiv (Int.ofNat n) 128 = Int.ofNat (n / 128))⟩]

theorem wjE (R : List UInt8) (l : List Int) (i n : Nat) (hb : n < 128)  : CodeC Try.prog 2 40 wjB (wjS R l i n) (.exit 2) (wjS R l i n) :=
 runS hmix [.reg 3 [(1, [], some false)]] ⟨[0, 5, 6, 7, 8], [(0, 0), (900, 900)], []⟩ [⟨(by simp; omega : decide (Int.ofNat n ≥ 128) = false)⟩]

theorem wjAll (R : List UInt8) (l : List Int) (i : Nat) : ∀ (k : Nat) (R : List UInt8) (n : Nat), n < 128 ^ (k + 1) → n < 18446744073709551616 → R.length + k ≤ 100000000 → ∃ n', n' < 128 ∧ R ++ vintF k n = (R ++ (vintF k n).dropLast) ++ [UInt8.ofNat n'] ∧ LoopC Try.prog 2 40 wjB (wjS R l i n) (.exit 2) (wjS (R ++ (vintF k n).dropLast) l i n')
  | 0, R, n, h, _, _ => ⟨n, by simpa using h, by simp [vintF], by
    have : (vintF 0 n).dropLast = [] := rfl
    rw [this, List.append_nil]
    exact LoopC.last (wjE R l i n (by simpa using h)) (by simp)⟩
  | k + 1, R, n, h, hn, hR => by
    by_cases hb : n < 128
    · have e : vintF (k + 1) n = [UInt8.ofNat n] := by unfold vintF; simp [hb]
      rw [e]
      refine ⟨n, hb, by simp, ?_⟩
      have : ([UInt8.ofNat n] : List UInt8).dropLast = [] := rfl
      rw [this, List.append_nil]
      exact LoopC.last (wjE R l i n hb) (by simp)
    · have e : vintF (k + 1) n = UInt8.ofNat (n % 128 + 128) :: vintF k (n / 128) := by rw [vintF]; simp [hb]
      have hlt : n / 128 < 128 ^ (k + 1) := by
        rw [Nat.div_lt_iff_lt_mul (by decide)]
        rw [Nat.pow_succ] at h
        exact h
      obtain ⟨n', h1, h2, h3⟩ := wjAll R l i k (R ++ [UInt8.ofNat (n % 128 + 128)]) (n / 128) hlt (by omega) (by simp; omega)
      have hne : vintF k (n / 128) ≠ [] := by
        cases k with
        | zero => simp [vintF]
        | succ k => unfold vintF; cases decide (n / 128 < 128) <;> simp
      refine ⟨n', h1, ?_, ?_⟩
      · rw [e, List.dropLast_cons_of_ne_nil hne]
        simpa using h2
      · rw [e, List.dropLast_cons_of_ne_nil hne]
        have := LoopC.next (wjGo R l i n (by omega) hn (by omega)) h3
        simpa using this
theorem wiGo (R R2 : List UInt8) (l : List Int) (x : Int) (i n : Nat) (hx : l[i]? = some x) (hi : i < l.length) (hu : isU x) (hs : l.length ≤ 1000000) (hR : R2.length ≤ 100000000) (hn : n < 128) (hl : LoopC Try.prog 2 40 wjB (wjS R l i x.toNat) (.exit 2) (wjS R2 l i n))  : CodeC Try.prog 2 40 wiB (wiS R l i) .normal (wiS (R2 ++ [UInt8.ofNat n]) l (i + 1)) :=
 runS hmix [.reg 1 [(0, [], some true)], .reg 2 [(1, [.row (uRow x), .be (U ((x.toNat : Nat) : Int))], none)], .cut ⟨[0, 5, 6, 7, 8], [(0, 0), (900, 900)], []⟩ (.exit 2) (wjS R2 l i n), .reg 6 [(8, [.beO ((R2 ++ [UInt8.ofNat n]).map bR)], none)], .reg 7 [(0, [.be (I ((i + 1 : Nat) : Int))], none)]] ⟨[0, 6, 7, 8], [(0, 0), (1209000, 900)], []⟩ [⟨dlt hi⟩, ⟨nn i⟩, ⟨ltm uRow hi⟩, ⟨gtm uRow hx⟩, ⟨(by unfold isU at hu; simp; omega : x = Int.ofNat (Int.toNat x))⟩, ⟨hl⟩, ⟨(by simp; omega : (List.length (List.map bR R2) + 1) * 1 ≤ 140737488355328)⟩, ⟨(by rw [List.map_append]; exact congrArg _ (congrArg (fun r => [r]) (bmod n hn)) : List.map bR R2 ++ [[V.val (Value.int IntKind.u8 (Int.ofNat (n % 256)))]] = List.map bR (R2 ++ [UInt8.ofNat n]))⟩, ⟨w64 (i + 1) (by omega)⟩]

theorem wiE (R : List UInt8) (l : List Int) (i : Nat) (h : l.length ≤ i)  : CodeC Try.prog 2 40 wiB (wiS R l i) (.exit 0) (wiS R l i) :=
 runS hmix [.reg 1 [(0, [], some false)]] ⟨[0, 6, 7, 8], [(0, 0), (900, 900)], []⟩ [⟨dge h⟩]

theorem flat_vint (l : List Int) : (l.flatMap vintI).length ≤ 10 * l.length := by
  induction l with
  | nil => simp
  | cons x l ih => have := vintI_len x; simp only [List.flatMap_cons, List.length_append, List.length_cons]; omega
theorem wiAll (l : List Int) (hs : l.length ≤ 1000000) (hu : ∀ x ∈ l, isU x) : ∀ (m i : Nat) (R : List UInt8), i + m = l.length → R.length + 10 * m ≤ 99999999 → LoopC Try.prog 2 40 wiB (wiS R l i) (.exit 0) (wiS (R ++ (l.drop i).flatMap vintI) l l.length)
  | 0, i, R, h, _ => by
    have : i = l.length := by omega
    subst this
    rw [List.drop_length]
    simp only [List.flatMap_nil, List.append_nil]
    exact LoopC.last (wiE R l _ (Nat.le_refl _)) (by simp)
  | m + 1, i, R, h, hR => by
    have hi : i < l.length := by omega
    have hx : l[i]? = some l[i] := List.getElem?_eq_getElem hi
    have hux := hu _ (List.getElem_mem hi)
    have hlt : l[i].toNat < 18446744073709551616 := by unfold isU at hux; omega
    obtain ⟨n', h1, h2, h3⟩ := wjAll R l i 9 R l[i].toNat (Nat.lt_of_lt_of_le hlt (by decide)) hlt (by omega)
    have hlen := vintI_len l[i]
    have h4 : (R ++ (vintF 9 l[i].toNat).dropLast) ++ [UInt8.ofNat n'] = R ++ vintI l[i] := h2.symm
    have hr := wiGo R _ l l[i] i n' hx hi hux hs (by have := congrArg List.length h4; simp at this ⊢; omega) h1 h3
    rw [h4] at hr
    have ih := wiAll l hs hu m (i + 1) (R ++ vintI l[i]) (by omega) (by simp; omega)
    rw [List.drop_eq_getElem_cons hi, List.flatMap_cons, ← List.append_assoc]
    exact LoopC.next hr ih
theorem wide0 (R Q : List UInt8) (l : List Int) (hl : LoopC Try.prog 2 40 wiB (wiS R l 0) (.exit 0) (wiS Q l l.length)) : Contract Try.prog 48 [.ptr 0 0 0 0, .sl 1 (l.map uRow)] [.box [.own 1], .arr 1 (R.map bR)] (.tup []) [some (.box [.own 2]), none, some (.arr 1 ((Q).map bR))] :=
 vcS hmix [.reg 0 [(1, [.be (I (l.length : Int))], none)], .cut ⟨[0, 6, 7, 8], [(0, 0), (1, 900)], []⟩ (.exit 0) (wiS Q l l.length)] [900] [⟨lenm uRow l⟩, ⟨hl⟩]

theorem cWide (R : List UInt8) (l : List Int) (hu : ∀ x ∈ l, isU x) (hs : l.length ≤ 1000000) (hR : R.length + 10 * l.length ≤ 99999999) : Contract Try.prog 48 [.ptr 0 0 0 0, .sl 1 (l.map uRow)] [.box [.own 1], .arr 1 (R.map bR)] (.tup []) [some (.box [.own 2]), none, some (.arr 1 ((R ++ l.flatMap vintI).map bR))] :=
  wide0 R _ l (by have := wiAll l hs hu l.length 0 R (by omega) hR; rw [List.drop_zero] at this; exact this)

end Go.Proofs.Ytdomjccibhgbjaa

/- numbers and texts, written. -/
namespace Go.Proofs.Ytdomjccibhgbjaa
open E
set_option maxRecDepth 100000
set_option linter.unusedVariables false
set_option linter.unusedSimpArgs false

def wnS (R : List UInt8) (l : List Int) (i : Nat) : SL := ⟨[(0, .ptr 0 0 0 0), (6, .sl 1 (l.map iRow)), (7, I (l.length : Int)), (8, I (i : Int))], [(0, .box [.own 900]), (900, .arr 1 (R.map bR))], [0, 900, 0, 1]⟩
def wtS (R : List UInt8) (l : List ByteArray) (i : Nat) : SL := ⟨[(0, .ptr 0 0 0 0), (6, .sl 1 (l.map sRow)), (7, I (l.length : Int)), (8, I (i : Int))], [(0, .box [.own 900]), (900, .arr 1 (R.map bR))], [0, 900, 0, 1]⟩
def textB (s : ByteArray) : List UInt8 := vintI (s.size : Int) ++ s.data.toList
def flagB (b : Bool) : List UInt8 := vintI (bif b then 1 else 0)
noncomputable def wnB : Code := codeAt Try.prog 46 [true, false, false]

noncomputable def wtB : Code := codeAt Try.prog 93 [true, false, false]

theorem wnGo (R : List UInt8) (l : List Int) (x : Int) (i : Nat) (hx : l[i]? = some x) (hi : i < l.length) (hu : isU x) (hs : l.length ≤ 1000000) (hR : R.length ≤ 99999000)  : CodeC Try.prog 2 18 wnB (wnS R l i) .normal (wnS (R ++ vintI x) l (i + 1)) :=
  runP hmix [.reg 1 [(0, [], some true)], .reg 2 [(1, [.row (iRow x)], none)], .reg 3 [(2, [.be (U x)], none), (3, [.beO ([x].map uRow)], none), (4, [.call [0, 900] [604000] (.tup []) [some (.box [.own 2]), none, some (.arr 1 ((R ++ vintI x).map bR))]], none)], .reg 4 [(0, [.be (I ((i + 1 : Nat) : Int))], none)]] ⟨[0, 6, 7, 8], [(0, 0), (605001, 900)], []⟩ [
      decide (Int.ofNat i < Int.ofNat (List.length l)) = true,
      (0 : Int) ≤ Int.ofNat i,
      Int.ofNat i < Int.ofNat (List.length (List.map iRow l)),
      (List.map iRow l)[i]? = some (iRow x),
      IntKind.wrap IntKind.u64 x = x,
      [[V.val (Value.int IntKind.u64 x)]] = [uRow x],
      Contract Try.prog (48 : Nat) [V.ptr (0 : Nat) (0 : Nat) (0 : Nat) (0 : Nat), V.sl (1 : Nat) [uRow x]] [Obj.box [V.own (1 : Nat)], Obj.arr (1 : Nat) (List.map bR R)] (V.tup []) [some (Obj.box [V.own (2 : Nat)]), none, some (Obj.arr (1 : Nat) (List.map bR (R ++ vintI x)))],
      IntKind.wrap IntKind.i64 (Int.ofNat (i + (1 : Nat))) = Int.ofNat (i + (1 : Nat))] (by kernel_rfl)
    (by
      simp only [allP]
      and_intros <;> first
        | (have q := cWide R [x] (by simpa using hu) (by simp) (by simp; omega); simp only [List.flatMap_cons, List.flatMap_nil, List.append_nil] at q; exact q)
        | exact u64_mod hu
        | exact rfl
        | (simp; omega)
        | (simp [hx]; done)
        | exact i64_small (by simp; omega))

theorem wnE (R : List UInt8) (l : List Int) (i : Nat) (h : l.length ≤ i)  : CodeC Try.prog 2 18 wnB (wnS R l i) (.exit 0) (wnS R l i) :=
 runS hmix [.reg 1 [(0, [], some false)]] ⟨[0, 6, 7, 8], [(0, 0), (900, 900)], []⟩ [⟨dge h⟩]

theorem wnAll (l : List Int) (hs : l.length ≤ 1000000) (hu : ∀ x ∈ l, isU x) : ∀ (m i : Nat) (R : List UInt8), i + m = l.length → R.length + 10 * m ≤ 99999000 → LoopC Try.prog 2 18 wnB (wnS R l i) (.exit 0) (wnS (R ++ (l.drop i).flatMap vintI) l l.length)
  | 0, i, R, h, _ => by
    have : i = l.length := by omega
    subst this
    rw [List.drop_length]
    simp only [List.flatMap_nil, List.append_nil]
    exact LoopC.last (wnE R l _ (Nat.le_refl _)) (by simp)
  | m + 1, i, R, h, hR => by
    have hi : i < l.length := by omega
    have hlen := vintI_len l[i]
    have ih := wnAll l hs hu m (i + 1) (R ++ vintI l[i]) (by omega) (by simp; omega)
    rw [List.drop_eq_getElem_cons hi, List.flatMap_cons, ← List.append_assoc]
    exact LoopC.next (wnGo R l l[i] i (List.getElem?_eq_getElem hi) hi (hu _ (List.getElem_mem hi)) hs (by omega)) ih
theorem num0 (R Q : List UInt8) (l : List Int) (hl : LoopC Try.prog 2 18 wnB (wnS R l 0) (.exit 0) (wnS Q l l.length)) : Contract Try.prog 46 [.ptr 0 0 0 0, .sl 1 (l.map iRow)] [.box [.own 1], .arr 1 (R.map bR)] (.tup []) [some (.box [.own 2]), none, some (.arr 1 ((Q).map bR))] :=
 vcS hmix [.reg 0 [(1, [.be (I (l.length : Int))], none)], .cut ⟨[0, 6, 7, 8], [(0, 0), (1, 900)], []⟩ (.exit 0) (wnS Q l l.length)] [900] [⟨lenm iRow l⟩, ⟨hl⟩]

theorem cNum (R : List UInt8) (l : List Int) (hu : ∀ x ∈ l, isU x) (hs : l.length ≤ 1000000) (hR : R.length + 10 * l.length ≤ 99999000) : Contract Try.prog 46 [.ptr 0 0 0 0, .sl 1 (l.map iRow)] [.box [.own 1], .arr 1 (R.map bR)] (.tup []) [some (.box [.own 2]), none, some (.arr 1 ((R ++ l.flatMap vintI).map bR))] :=
  num0 R _ l (by have := wnAll l hs hu l.length 0 R (by omega) hR; rw [List.drop_zero] at this; exact this)
theorem cNum1 (R : List UInt8) (x : Int) (hu : isU x) (hR : R.length ≤ 99998000) : Contract Try.prog 46 [.ptr 0 0 0 0, .sl 1 [[I x]]] [.box [.own 1], .arr 1 (R.map bR)] (.tup []) [some (.box [.own 2]), none, some (.arr 1 ((R ++ vintI x).map bR))] := by
  have := cNum R [x] (by simpa using hu) (by simp) (by simp; omega)
  simpa [iRow] using this

theorem wtGo (R : List UInt8) (l : List ByteArray) (x : ByteArray) (i : Nat) (hx : l[i]? = some x) (hi : i < l.length) (hu : x.size ≤ 1000000) (hs : l.length ≤ 1000000) (hR : R.length ≤ 90000000)  : CodeC Try.prog 2 27 wtB (wtS R l i) .normal (wtS (R ++ textB x) l (i + 1)) :=
 runS hmix [.reg 1 [(0, [], some true)], .reg 2 [(1, [.row (sRow x)], none)], .reg 3 [(4, [.call [0, 900] [604000] (.tup []) [some (.box [.own 2]), none, some (.arr 1 ((R ++ vintI (x.size : Int)).map bR))]], none)], .reg 4 [(6, [.beO ((R ++ textB x).map bR)], none)], .reg 5 [(0, [.be (I ((i + 1 : Nat) : Int))], none)]] ⟨[0, 6, 7, 8], [(0, 0), (807000, 900)], []⟩ [⟨dlt hi⟩, ⟨nn i⟩, ⟨ltm sRow hi⟩, ⟨gtm sRow hx⟩, ⟨cNum1 R (x.size : Int) (by unfold isU; omega) (by omega)⟩, ⟨(by have q := vintI_len (x.size : Int); simp [strRows]; have w : x.data.size = x.size := rfl; omega : (List.length (List.map bR (R ++ vintI (Int.ofNat (ByteArray.size x)))) + List.length (strRows x)) * 1 ≤ 140737488355328)⟩, ⟨(by rw [show strRows x = x.data.toList.map bR from rfl, ← List.map_append, List.append_assoc]; rfl : List.map bR (R ++ vintI (Int.ofNat (ByteArray.size x))) ++ strRows x = List.map bR (R ++ textB x))⟩, ⟨w64 (i + 1) (by omega)⟩]

theorem wtE (R : List UInt8) (l : List ByteArray) (i : Nat) (h : l.length ≤ i)  : CodeC Try.prog 2 27 wtB (wtS R l i) (.exit 0) (wtS R l i) :=
 runS hmix [.reg 1 [(0, [], some false)]] ⟨[0, 6, 7, 8], [(0, 0), (900, 900)], []⟩ [⟨dge h⟩]

theorem textB_len (s : ByteArray) : (textB s).length ≤ 10 + s.size := by
  have := vintI_len (s.size : Int)
  unfold textB
  rw [List.length_append]
  have w : s.data.toList.length = s.size := by rw [Array.length_toList]; rfl
  omega
theorem wtAll (l : List ByteArray) (hs : l.length ≤ 1000) (hu : ∀ x ∈ l, x.size ≤ 10000) : ∀ (m i : Nat) (R : List UInt8), i + m = l.length → R.length + 10010 * m ≤ 80000000 → LoopC Try.prog 2 27 wtB (wtS R l i) (.exit 0) (wtS (R ++ (l.drop i).flatMap textB) l l.length)
  | 0, i, R, h, _ => by
    have : i = l.length := by omega
    subst this
    rw [List.drop_length]
    simp only [List.flatMap_nil, List.append_nil]
    exact LoopC.last (wtE R l _ (Nat.le_refl _)) (by simp)
  | m + 1, i, R, h, hR => by
    have hi : i < l.length := by omega
    have hlen := textB_len l[i]
    have hsz := hu _ (List.getElem_mem hi)
    have ih := wtAll l hs hu m (i + 1) (R ++ textB l[i]) (by omega) (by simp; omega)
    rw [List.drop_eq_getElem_cons hi, List.flatMap_cons, ← List.append_assoc]
    exact LoopC.next (wtGo R l l[i] i (List.getElem?_eq_getElem hi) hi (by omega) (by omega) (by omega)) ih
theorem text0 (R Q : List UInt8) (l : List ByteArray) (hl : LoopC Try.prog 2 27 wtB (wtS R l 0) (.exit 0) (wtS Q l l.length)) : Contract Try.prog 93 [.ptr 0 0 0 0, .sl 1 (l.map sRow)] [.box [.own 1], .arr 1 (R.map bR)] (.tup []) [some (.box [.own 2]), none, some (.arr 1 ((Q).map bR))] :=
 vcS hmix [.reg 0 [(1, [.be (I (l.length : Int))], none)], .cut ⟨[0, 6, 7, 8], [(0, 0), (1, 900)], []⟩ (.exit 0) (wtS Q l l.length)] [900] [⟨lenm sRow l⟩, ⟨hl⟩]

theorem cText (R : List UInt8) (l : List ByteArray) (hu : ∀ x ∈ l, x.size ≤ 10000) (hs : l.length ≤ 1000) (hR : R.length + 10010 * l.length ≤ 80000000) : Contract Try.prog 93 [.ptr 0 0 0 0, .sl 1 (l.map sRow)] [.box [.own 1], .arr 1 (R.map bR)] (.tup []) [some (.box [.own 2]), none, some (.arr 1 ((R ++ l.flatMap textB).map bR))] :=
  text0 R _ l (by have := wtAll l hs hu l.length 0 R (by omega) hR; rw [List.drop_zero] at this; exact this)

theorem cFlag_0 (R : List UInt8) (b : Bool) (hR : R.length ≤ 99990000) (tq0 : (b) = true) : Contract Try.prog 74 [.ptr 0 0 0 0, Bo b] [.box [.own 1], .arr 1 (R.map bR)] (.tup []) [some (.box [.own 2]), none, some (.arr 1 ((R ++ flagB b).map bR))] :=
 vcS hmix [.reg 1 [(0, [], some true)], .reg 3 [(3, [.call [0, 1] [603000] (.tup []) [some (.box [.own 2]), none, some (.arr 1 ((R ++ flagB b).map bR))]], none)]] [604001] [⟨tq0⟩, ⟨(by unfold flagB; rw [tq0]; exact cNum1 R 1 (by unfold isU; omega) (by omega) : Contract Try.prog 46 [.ptr 0 0 0 0, .sl 1 [[I 1]]] [.box [.own 1], .arr 1 (List.map bR R)] (.tup []) [some (.box [.own 2]), none, some (.arr 1 (List.map bR (R ++ flagB b)))])⟩]

theorem cFlag_1 (R : List UInt8) (b : Bool) (hR : R.length ≤ 99990000) (tq0 : (b) = false) : Contract Try.prog 74 [.ptr 0 0 0 0, Bo b] [.box [.own 1], .arr 1 (R.map bR)] (.tup []) [some (.box [.own 2]), none, some (.arr 1 ((R ++ flagB b).map bR))] :=
 vcS hmix [.reg 1 [(0, [], some false)], .reg 3 [(3, [.call [0, 1] [603000] (.tup []) [some (.box [.own 2]), none, some (.arr 1 ((R ++ flagB b).map bR))]], none)]] [604001] [⟨tq0⟩, ⟨(by unfold flagB; rw [tq0]; exact cNum1 R 0 (by unfold isU; omega) (by omega) : Contract Try.prog 46 [.ptr 0 0 0 0, .sl 1 [[I 0]]] [.box [.own 1], .arr 1 (List.map bR R)] (.tup []) [some (.box [.own 2]), none, some (.arr 1 (List.map bR (R ++ flagB b)))])⟩]

theorem cFlag (R : List UInt8) (b : Bool) (hR : R.length ≤ 99990000) : Contract Try.prog 74 [.ptr 0 0 0 0, Bo b] [.box [.own 1], .arr 1 (R.map bR)] (.tup []) [some (.box [.own 2]), none, some (.arr 1 ((R ++ flagB b).map bR))] := by
  rcases tf (b) with tq0 | tq0
  · exact cFlag_0 R b hR tq0
  · exact cFlag_1 R b hR tq0

end Go.Proofs.Ytdomjccibhgbjaa

/- Strings in their order, and what is compared by several parts. -/
namespace Go.Proofs.Ytdomjccibhgbjaa
open E
set_option maxRecDepth 100000

theorem bytesLess_lt : ∀ (x y : List UInt8), Op.bytesLess x y = true ↔ x < y
  | x, [] => by cases x <;> simp [Op.bytesLess]
  | [], _ :: _ => by simp [Op.bytesLess]
  | a :: x, b :: y => by simp [Op.bytesLess, List.cons_lt_cons_iff, bytesLess_lt x y]

def ltS (s t : ByteArray) : Bool := Op.bytesLess s.toList t.toList
/-- How two texts stand to one another: -1, 0, 1. -/
def cmpS (s t : ByteArray) : Int := bif ltS s t then -1 else bif (!(ltS s t || s.toList == t.toList)) then 1 else 0
def orI (a b : Int) : Int := bif a != 0 then a else b

theorem toList_inj {s t : ByteArray} (h : s.toList = t.toList) : s = t := by
  rw [ByteArray.toList_eq, ByteArray.toList_eq] at h
  have : s.data = t.data := Array.toList_inj.1 h
  cases s; cases t; simp_all

theorem ltS_iff (s t : ByteArray) : ltS s t = true ↔ s.toList < t.toList := bytesLess_lt _ _
theorem ltS_irrefl (s : ByteArray) : ltS s s = false := by
  rw [Bool.eq_false_iff, ne_eq, ltS_iff]; exact List.lt_irrefl _
theorem ltS_trans {s t u : ByteArray} (h : ltS s t = true) (k : ltS t u = true) : ltS s u = true := by
  rw [ltS_iff] at h k ⊢; exact List.lt_trans h k
theorem ltS_total {s t : ByteArray} (h : ltS s t = false) (k : ltS t s = false) : s = t := by
  rw [Bool.eq_false_iff, ne_eq, ltS_iff] at h k
  exact toList_inj (List.le_antisymm (List.not_lt.1 k) (List.not_lt.1 h))
theorem ltS_asymm {s t : ByteArray} (h : ltS s t = true) : ltS t s = false := by
  cases k : ltS t s with
  | false => rfl
  | true => have := ltS_trans h k; rw [ltS_irrefl] at this; cases this

theorem cmpS_cases (s t : ByteArray) : (cmpS s t = -1 ∧ ltS s t = true) ∨ (cmpS s t = 0 ∧ s = t) ∨ (cmpS s t = 1 ∧ ltS t s = true) := by
  unfold cmpS
  cases h : ltS s t with
  | true => left; simp
  | false =>
    right
    by_cases e : s = t
    · left; subst e; simp
    · right
      have hne : (s.toList == t.toList) = false := by
        rw [beq_eq_false_iff_ne]; exact fun h => e (toList_inj h)
      refine ⟨by simp [hne], ?_⟩
      cases k : ltS t s with
      | true => rfl
      | false => exact absurd (ltS_total h k) e

theorem cmpS_self (s : ByteArray) : cmpS s s = 0 := by
  rcases cmpS_cases s s with ⟨_, h⟩ | ⟨h, _⟩ | ⟨_, h⟩
  · rw [ltS_irrefl] at h; cases h
  · exact h
  · rw [ltS_irrefl] at h; cases h
theorem cmpS_zero {s t : ByteArray} : cmpS s t = 0 ↔ s = t := by
  constructor
  · intro h
    rcases cmpS_cases s t with ⟨k, _⟩ | ⟨_, e⟩ | ⟨k, _⟩
    · omega
    · exact e
    · omega
  · rintro rfl; exact cmpS_self s
theorem cmpS_neg {s t : ByteArray} : cmpS s t < 0 ↔ ltS s t = true := by
  constructor
  · intro h
    rcases cmpS_cases s t with ⟨_, e⟩ | ⟨k, _⟩ | ⟨k, _⟩
    · exact e
    · omega
    · omega
  · intro h
    rcases cmpS_cases s t with ⟨k, _⟩ | ⟨_, e⟩ | ⟨_, k⟩
    · omega
    · subst e; rw [ltS_irrefl] at h; cases h
    · rw [ltS_asymm h] at k; cases k
theorem cmpS_flip (s t : ByteArray) : cmpS t s = - cmpS s t := by
  rcases cmpS_cases s t with ⟨k, e⟩ | ⟨k, e⟩ | ⟨k, e⟩
  · rcases cmpS_cases t s with ⟨k2, e2⟩ | ⟨k2, e2⟩ | ⟨k2, e2⟩
    · rw [ltS_asymm e] at e2; cases e2
    · subst e2; rw [ltS_irrefl] at e; cases e
    · omega
  · subst e; rw [k]; rfl
  · rcases cmpS_cases t s with ⟨k2, e2⟩ | ⟨k2, e2⟩ | ⟨k2, e2⟩
    · omega
    · subst e2; rw [ltS_irrefl] at e; cases e
    · rw [ltS_asymm e] at e2; cases e2

theorem ba_beq (s t : ByteArray) : (s == t) = true ↔ s = t := by
  cases s with | mk a => cases t with | mk b =>
  show (a == b) = true ↔ _
  simp
theorem ba_refl (s : ByteArray) : (s == s) = true := (ba_beq s s).2 rfl

def FNaN : List V → Option V := fun _ => some (Bo false)
def FCmp : List V → Option V
  | [.val (.string a), .val (.string b)] => some (I (cmpS a b))
  | _ => none
def FOr : List V → Option V
  | [.sl _ [[.val (.int _ a)], [.val (.int _ b)]]] => some (I (orI a b))
  | [.sl _ [[.val (.int _ a)], [.val (.int _ b)], [.val (.int _ c)]]] => some (I (orI a (orI b c)))
  | [.sl _ [[.val (.int _ a)], [.val (.int _ b)], [.val (.int _ c)], [.val (.int _ d)]]] => some (I (orI a (orI b (orI c d))))
  | _ => none
end Go.Proofs.Ytdomjccibhgbjaa

/- spans: names, and what slices tells of attributes. -/
namespace Go.Proofs.Ytdomjccibhgbjaa
open E
set_option maxRecDepth 100000
set_option linter.unusedVariables false
set_option linter.unusedSimpArgs false

/-- An attribute. -/
structure At where
  key : ByteArray
  val : ByteArray
def At.row (a : At) : List V := [Sg a.key, Sg a.val]
def At.v (a : At) : V := .agg a.row
/-- A span. -/
structure Sp where
  hi : Int
  lo : Int
  id : Int
  par : Int
  svc : ByteArray
  op : ByteArray
  start : Int
  dur : Int
  err : Bool
  attrs : List At
def Sp.row (s : Sp) : List V := [U s.hi, U s.lo, U s.id, U s.par, Sg s.svc, Sg s.op, I s.start, I s.dur, Bo s.err, .sl 2 (s.attrs.map At.row)]
def Sp.v (s : Sp) : V := .agg s.row
def withinB (n lo hi : Int) : Bool := decide (n ≥ lo) && decide (n ≤ hi)
def nameB (s : ByteArray) : Bool := withinB (s.size : Int) 1 16
def pKey (a y : At) : Bool := y.key.toList == a.key.toList
def FName : List V → Option V
  | [.val (.string s)] => some (Bo (nameB s))
  | _ => none
/-- What is wrong with an attribute. -/
def badA (l : List At) (i : Nat) (a : At) : Bool := !nameB a.key || decide ((a.val.size : Int) > 16) || decide (0 ≤ idxI (pKey a) (l.take i))
def attrsB (l : List At) : Bool := (List.range l.length).all (fun i => match l[i]? with
  | some a => !badA l i a
  | none => true) && decide ((l.length : Int) ≤ 4)
def rightS (s : Sp) : Bool := nameB s.svc && nameB s.op && withinB s.start 0 1099511627776 && withinB s.dur 0 1073741824 && decide ((s.attrs.length : Int) ≤ 4) && attrsB s.attrs
theorem all_of_idx {α : Type} {p : α → Bool} {l : List α} (h : ∀ (i : Nat) (x : α), l[i]? = some x → p x = false) : l.all (fun a => !p a) = true := by
  rw [List.all_eq_true]
  intro x hx
  obtain ⟨i, hi⟩ := List.mem_iff_getElem?.1 hx
  rw [h i x hi]; rfl
theorem all_not {α : Type} {p : α → Bool} {l : List α} {i : Nat} {x : α} (h : l[i]? = some x) (hp : p x = true) : l.all (fun a => !p a) = false := by
  rw [List.all_eq_false]
  exact ⟨x, List.mem_of_getElem? h, by rw [hp]; simp⟩
theorem attrs_bad {l : List At} {i : Nat} {a : At} (h : l[i]? = some a) (hb : badA l i a = true) : attrsB l = false := by
  unfold attrsB
  rw [Bool.and_eq_false_iff]
  left
  rw [List.all_eq_false]
  exact ⟨i, List.mem_range.2 (List.getElem?_eq_some_iff.1 h).1, by rw [h]; simp [hb]⟩
theorem attrs_good {l : List At} (h : ∀ (i : Nat) (a : At), l[i]? = some a → badA l i a = false) : attrsB l = decide ((l.length : Int) ≤ 4) := by
  unfold attrsB
  have : ((List.range l.length).all fun i => match l[i]? with
    | some a => !badA l i a
    | none => true) = true := by
    rw [List.all_eq_true]
    intro i hi
    cases hx : l[i]? with
    | none => rfl
    | some a => simp [h i a hx]
  rw [this, Bool.true_and]
theorem cName_0 (s : ByteArray)  (tq0 : (decide (Int.ofNat (ByteArray.size s) ≥ (1 : Int))) = true) : Contract Try.prog 99 [Sg s] [] (Bo (decide (Int.ofNat (ByteArray.size s) ≤ 16))) ([]) :=
 vcS hmix [.reg 1 [(3, [], some true)]] [] [⟨tq0⟩]

theorem cName_1 (s : ByteArray)  (tq0 : (decide (Int.ofNat (ByteArray.size s) ≥ (1 : Int))) = false) : Contract Try.prog 99 [Sg s] [] (Bo false) ([]) :=
 vcS hmix [.reg 1 [(3, [], some false)]] [] [⟨tq0⟩]

theorem cName (s : ByteArray)  : Contract Try.prog 99 [Sg s] [] (Bo (nameB s)) [] := by
  rcases tf (decide (Int.ofNat (ByteArray.size s) ≥ (1 : Int))) with tq0 | tq0
  · exact Contract.cast (by (try simp only [Int.ofNat_eq_natCast, List.length_map, Bool.not_eq_true', Bool.not_eq_false', decide_eq_true_eq, decide_eq_false_iff_not] at tq0); simp [nameB, withinB, tq0]) rfl (cName_0 s  tq0)
  · exact Contract.cast (by (try simp only [Int.ofNat_eq_natCast, List.length_map, Bool.not_eq_true', Bool.not_eq_false', decide_eq_true_eq, decide_eq_false_iff_not] at tq0); simp [nameB, withinB, tq0]) rfl (cName_1 s  tq0)

theorem cKey1 (x a : At)  : Contract Try.prog 105 [x.v, .ptr 0 0 0 0] [.box a.row] (Bo (pKey a x)) [some (.box a.row)] :=
 vcS hmix [] [] []

def ixKS (l : List At) (a : At) (i : Nat) (r : Int) : SL := ⟨[(0, .sl 2 (l.map At.row)), (1, .clo (.func 105) [] [.ptr 0 0 0 0]), (4, I r), (7, I (l.length : Int)), (8, I (i : Int))], [(0, .box a.row)], [0, 0]⟩
noncomputable def ixKB : Code := codeAt Try.prog 107 [true, false, true, false, false]

theorem ixKNo (l : List At) (a : At) (x : At) (i : Nat) (h : i < l.length) (hx : l[i]? = some x) (hs : l.length ≤ 1000000000000000) (hp : (pKey a) x = false) : CodeC Try.prog 1 19 ixKB (ixKS l a i 0) .normal (ixKS l a (i + 1) 0) :=
 runS hmix [.reg 2 [(0, [], some true)], .reg 4 [(4, [.row (At.row x)], none), (5, [.call [0] [] (Bo ((pKey a) x)) [some (.box a.row)]], some false)], .reg 6 [(0, [.be (I ((i + 1 : Nat) : Int))], none)]] ⟨[0, 1, 4, 7, 8], [(0, 0)], []⟩ [⟨dlt h⟩, ⟨nn i⟩, ⟨ltm At.row h⟩, ⟨gtm At.row hx⟩, ⟨cKey1 x a⟩, ⟨(by omega : pKey a x = false)⟩, ⟨w64 (i + 1) (by omega)⟩]

theorem ixKYes (l : List At) (a : At) (x : At) (i : Nat) (h : i < l.length) (hx : l[i]? = some x) (hs : l.length ≤ 1000000000000000) (hp : (pKey a) x = true) : CodeC Try.prog 1 19 ixKB (ixKS l a i 0) .ret (ixKS l a i (i : Int)) :=
 runS hmix [.reg 2 [(0, [], some true)], .reg 4 [(4, [.row (At.row x)], none), (5, [.call [0] [] (Bo ((pKey a) x)) [some (.box a.row)]], some true)]] ⟨[0, 1, 4, 7, 8], [(0, 0)], []⟩ [⟨dlt h⟩, ⟨nn i⟩, ⟨ltm At.row h⟩, ⟨gtm At.row hx⟩, ⟨cKey1 x a⟩, ⟨(by omega : pKey a x = true)⟩]

theorem ixKEnd (l : List At) (a : At) (i : Nat) (h : l.length ≤ i) : CodeC Try.prog 1 19 ixKB (ixKS l a i 0) (.exit 0) (ixKS l a i 0) :=
 runS hmix [.reg 2 [(0, [], some false)]] ⟨[0, 1, 4, 7, 8], [(0, 0)], []⟩ [⟨dge h⟩]

theorem ixKLoop (l : List At) (a : At) (hs : l.length ≤ 1000000000000000) : ∀ (n i : Nat), i + n = l.length →
    match (l.drop i).findIdx? (pKey a) with
    | some j => LoopC Try.prog 1 19 ixKB (ixKS l a i 0) .ret (ixKS l a (i + j) ((i + j : Nat) : Int))
    | none => LoopC Try.prog 1 19 ixKB (ixKS l a i 0) (.exit 0) (ixKS l a l.length 0)
  | 0, i, hi => by
    rw [List.drop_of_length_le (by omega)]
    have : i = l.length := by omega
    subst this
    exact LoopC.last (ixKEnd l a _ (by omega)) (by simp)
  | n + 1, i, hi => by
    have hlt : i < l.length := by omega
    have hx : l[i]? = some l[i] := by simp [hlt]
    have ih := ixKLoop l a hs n (i + 1) (by omega)
    rw [List.drop_eq_getElem_cons hlt, List.findIdx?_cons]
    cases hp : (pKey a) l[i] with
    | true =>
      simp only [if_true, Nat.add_zero]
      exact LoopC.last (ixKYes l a l[i] i hlt hx hs hp) (by simp)
    | false =>
      have r := ixKNo l a l[i] i hlt hx hs hp
      simp only [Bool.false_eq_true, if_false]
      cases hf : (l.drop (i + 1)).findIdx? (pKey a) with
      | none => rw [hf] at ih; exact LoopC.next r ih
      | some j =>
        rw [hf] at ih
        simp only [Option.map_some]
        rw [show i + (j + 1) = i + 1 + j by omega]
        exact LoopC.next r ih

theorem ixKSome (l : List At) (a : At) (j : Nat) (hs : l.length ≤ 1000000000000000) (h : l.findIdx? (pKey a) = some j) : Contract Try.prog 107 [.sl 2 (l.map At.row), .clo (.func 105) [] [.ptr 0 0 0 0]] [.box a.row] (I (j : Int)) [some (.box a.row)] :=
  have hl := ixKLoop l a hs l.length 0 (by omega)
  have hl : LoopC Try.prog 1 19 ixKB (ixKS l a 0 0) .ret (ixKS l a j ((j : Nat) : Int)) := by rw [List.drop_zero, h] at hl; simpa using hl
  vcP hmix [.reg 1 [(1, [.be (I (l.length : Int))], none)], .cut ⟨[0, 1, 4, 7, 8], [(0, 0)], []⟩ .ret (ixKS l a j (j : Int))] [] [(((l.map At.row).length : Nat) : Int) = (l.length : Int), LoopC Try.prog 1 19 ixKB (ixKS l a 0 0) .ret (ixKS l a j ((j : Nat) : Int))] (by kernel_rfl) ⟨by simp, hl⟩

theorem ixKNone (l : List At) (a : At) (hs : l.length ≤ 1000000000000000) (h : l.findIdx? (pKey a) = none) : Contract Try.prog 107 [.sl 2 (l.map At.row), .clo (.func 105) [] [.ptr 0 0 0 0]] [.box a.row] (I (-1)) [some (.box a.row)] :=
  have hl := ixKLoop l a hs l.length 0 (by omega)
  have hl : LoopC Try.prog 1 19 ixKB (ixKS l a 0 0) (.exit 0) (ixKS l a l.length 0) := by rw [List.drop_zero, h] at hl; exact hl
  vcP hmix [.reg 1 [(1, [.be (I (l.length : Int))], none)], .cut ⟨[0, 1, 4, 7, 8], [(0, 0)], []⟩ (.exit 0) (ixKS l a l.length 0)] [] [(((l.map At.row).length : Nat) : Int) = (l.length : Int), LoopC Try.prog 1 19 ixKB (ixKS l a 0 0) (.exit 0) (ixKS l a l.length 0)] (by kernel_rfl) ⟨by simp, hl⟩

theorem ixK (l : List At) (a : At) (hs : l.length ≤ 1000000000000000) : Contract Try.prog 107 [.sl 2 (l.map At.row), .clo (.func 105) [] [.ptr 0 0 0 0]] [.box a.row] (I (idxI (pKey a) l)) [some (.box a.row)] := by
  unfold idxI
  cases h : l.findIdx? (pKey a) with
  | none => exact ixKNone l a hs h
  | some j => exact ixKSome l a j hs h

end Go.Proofs.Ytdomjccibhgbjaa

/- spans: which may be. -/
namespace Go.Proofs.Ytdomjccibhgbjaa
open E
set_option maxRecDepth 100000
set_option linter.unusedVariables false
set_option linter.unusedSimpArgs false

def atS (l : List At) (r : Bool) (i : Nat) : SL := ⟨[(0, .sl 2 (l.map At.row)), (2, Bo r), (5, .sl 2 (l.map At.row)), (6, I (l.length : Int)), (7, I (i : Int))], [], []⟩
noncomputable def atB : Code := codeAt Try.prog 100 [true, false, true, false, false]

theorem cKeys (l : List At) (a : At) (hs : l.length ≤ 1000000000000000) : Contract Try.prog 104 [.sl 2 (l.map At.row), .clo (.func 105) [] [.ptr 0 0 0 0]] [.box a.row] (Bo (decide (0 ≤ idxI (pKey a) l))) [some (.box a.row)] :=
 vcS hmix [.reg 1 [(2, [.call [0] [] (I (idxI (pKey a) l)) [some (.box a.row)]], none)]] [] [⟨ixK l a hs⟩]

theorem at_0 (l : List At) (a : At) (i : Nat) (h : i < l.length) (hx : l[i]? = some a) (hs : l.length ≤ 1000000000) (tq0 : (!nameB (At.key a)) = true) : CodeC Try.prog 0 33 atB (atS l false i) .ret (atS l false i) :=
 runS hmix [.reg 2 [(0, [], some true)], .reg 3 [(2, [.row (At.row a)], none)], .reg 4 [(4, [], some true), (13, [.be (.sl 2 ((l.take i).map At.row))], none), (15, [.call [604000] [] (Bo (decide (0 ≤ idxI (pKey a) (l.take i)))) [some (.box a.row)]], none)], .tab [(99, FName)]] ⟨[0, 2, 5, 6, 7], [], []⟩ [⟨dlt h⟩, ⟨nn i⟩, ⟨ltm At.row h⟩, ⟨gtm At.row hx⟩, ⟨cName a.key⟩, ⟨tq0⟩]

theorem at_1 (l : List At) (a : At) (i : Nat) (h : i < l.length) (hx : l[i]? = some a) (hs : l.length ≤ 1000000000) (tq0 : (!nameB (At.key a)) = false) (tq1 : (decide (Int.ofNat (ByteArray.size (At.val a)) > (16 : Int))) = true) : CodeC Try.prog 0 33 atB (atS l false i) .ret (atS l false i) :=
 runS hmix [.reg 2 [(0, [], some true)], .reg 3 [(2, [.row (At.row a)], none)], .reg 4 [(4, [], some false), (10, [], some true), (13, [.be (.sl 2 ((l.take i).map At.row))], none), (15, [.call [604000] [] (Bo (decide (0 ≤ idxI (pKey a) (l.take i)))) [some (.box a.row)]], none)], .tab [(99, FName)]] ⟨[0, 2, 5, 6, 7], [], []⟩ [⟨dlt h⟩, ⟨nn i⟩, ⟨ltm At.row h⟩, ⟨gtm At.row hx⟩, ⟨cName a.key⟩, ⟨tq0⟩, ⟨tq1⟩]

theorem at_2 (l : List At) (a : At) (i : Nat) (h : i < l.length) (hx : l[i]? = some a) (hs : l.length ≤ 1000000000) (tq0 : (!nameB (At.key a)) = false) (tq1 : (decide (Int.ofNat (ByteArray.size (At.val a)) > (16 : Int))) = false) (tq2 : (decide ((0 : Int) ≤ idxI (pKey a) (List.take i l))) = true) : CodeC Try.prog 0 33 atB (atS l false i) .ret (atS l false i) :=
  runP hmix [.reg 2 [(0, [], some true)], .reg 3 [(2, [.row (At.row a)], none)], .reg 4 [(4, [], some false), (10, [], some false), (13, [.be (.sl 2 ((l.take i).map At.row))], none), (15, [.call [604000] [] (Bo (decide (0 ≤ idxI (pKey a) (l.take i)))) [some (.box a.row)]], none), (16, [], some true)], .tab [(99, FName)]] ⟨[0, 2, 5, 6, 7], [], []⟩ [
      decide (Int.ofNat i < Int.ofNat (List.length l)) = true,
      (0 : Int) ≤ Int.ofNat i,
      Int.ofNat i < Int.ofNat (List.length (List.map At.row l)),
      (List.map At.row l)[i]? = some (At.row a),
      Contract Try.prog (99 : Nat) [Sg (At.key a)] [] (Bo (nameB (At.key a))) [],
      (!nameB (At.key a)) = false,
      decide (Int.ofNat (ByteArray.size (At.val a)) > (16 : Int)) = false,
      (0 : Int) ≤ (0 : Int),
      (0 : Int) ≤ Int.ofNat i,
      Int.ofNat i ≤ Int.ofNat (List.length (List.map At.row l)),
      List.take i (List.map At.row l) = List.map At.row (List.take i l),
      Contract Try.prog (104 : Nat) [V.sl (2 : Nat) (List.map At.row (List.take i l)), V.clo (Fn.func (105 : Nat)) [] [V.ptr (0 : Nat) (0 : Nat) (0 : Nat) (0 : Nat)]] [Obj.box [Sg (At.key a), Sg (At.val a)]] (Bo (decide ((0 : Int) ≤ idxI (pKey a) (List.take i l)))) [some (Obj.box (At.row a))],
      decide ((0 : Int) ≤ idxI (pKey a) (List.take i l)) = true] (by kernel_rfl)
    (by
      have d0 := tq0
      have d1 := tq1
      have d2 := tq2
      try simp only [Int.ofNat_eq_natCast, List.length_map, Bool.not_eq_true', Bool.not_eq_false', decide_eq_true_eq, decide_eq_false_iff_not] at d0 d1 d2
      simp only [allP]
      and_intros <;> first
        | omega
        | exact cName a.key
        | exact cKeys (l.take i) a (by simp; omega)
        | (simp; omega)
        | (simp [hx]; done))

theorem at_3 (l : List At) (a : At) (i : Nat) (h : i < l.length) (hx : l[i]? = some a) (hs : l.length ≤ 1000000000) (tq0 : (!nameB (At.key a)) = false) (tq1 : (decide (Int.ofNat (ByteArray.size (At.val a)) > (16 : Int))) = false) (tq2 : (decide ((0 : Int) ≤ idxI (pKey a) (List.take i l))) = false) : CodeC Try.prog 0 33 atB (atS l false i) .normal (atS l false (i + 1)) :=
  runP hmix [.reg 2 [(0, [], some true)], .reg 3 [(2, [.row (At.row a)], none)], .reg 4 [(4, [], some false), (10, [], some false), (13, [.be (.sl 2 ((l.take i).map At.row))], none), (15, [.call [604000] [] (Bo (decide (0 ≤ idxI (pKey a) (l.take i)))) [some (.box a.row)]], none), (16, [], some false)], .reg 6 [(0, [.be (I ((i + 1 : Nat) : Int))], none)], .tab [(99, FName)]] ⟨[0, 2, 5, 6, 7], [], []⟩ [
      decide (Int.ofNat i < Int.ofNat (List.length l)) = true,
      (0 : Int) ≤ Int.ofNat i,
      Int.ofNat i < Int.ofNat (List.length (List.map At.row l)),
      (List.map At.row l)[i]? = some (At.row a),
      Contract Try.prog (99 : Nat) [Sg (At.key a)] [] (Bo (nameB (At.key a))) [],
      (!nameB (At.key a)) = false,
      decide (Int.ofNat (ByteArray.size (At.val a)) > (16 : Int)) = false,
      (0 : Int) ≤ (0 : Int),
      (0 : Int) ≤ Int.ofNat i,
      Int.ofNat i ≤ Int.ofNat (List.length (List.map At.row l)),
      List.take i (List.map At.row l) = List.map At.row (List.take i l),
      Contract Try.prog (104 : Nat) [V.sl (2 : Nat) (List.map At.row (List.take i l)), V.clo (Fn.func (105 : Nat)) [] [V.ptr (0 : Nat) (0 : Nat) (0 : Nat) (0 : Nat)]] [Obj.box [Sg (At.key a), Sg (At.val a)]] (Bo (decide ((0 : Int) ≤ idxI (pKey a) (List.take i l)))) [some (Obj.box (At.row a))],
      decide ((0 : Int) ≤ idxI (pKey a) (List.take i l)) = false,
      IntKind.wrap IntKind.i64 (Int.ofNat (i + (1 : Nat))) = Int.ofNat (i + (1 : Nat))] (by kernel_rfl)
    (by
      have d0 := tq0
      have d1 := tq1
      have d2 := tq2
      try simp only [Int.ofNat_eq_natCast, List.length_map, Bool.not_eq_true', Bool.not_eq_false', decide_eq_true_eq, decide_eq_false_iff_not] at d0 d1 d2
      simp only [allP]
      and_intros <;> first
        | omega
        | exact cName a.key
        | exact cKeys (l.take i) a (by simp; omega)
        | (simp; omega)
        | (simp [hx]; done)
        | exact i64_small (by simp; omega))

theorem atGo (l : List At) (a : At) (i : Nat) (h : i < l.length) (hx : l[i]? = some a) (hs : l.length ≤ 1000000000) (hb : badA l i a = false) : CodeC Try.prog 0 33 atB (atS l false i) .normal (atS l false (i + 1)) := by
  rcases tf (!nameB (At.key a)) with tq0 | tq0
  · exact absurd hb (by simp [badA, tq0])
  · rcases tf (decide (Int.ofNat (ByteArray.size (At.val a)) > (16 : Int))) with tq1 | tq1
    · exact absurd hb (by (try simp only [Int.ofNat_eq_natCast, List.length_map, Bool.not_eq_true', Bool.not_eq_false', decide_eq_true_eq, decide_eq_false_iff_not] at tq0 tq1); simp [badA, tq0, tq1])
    · rcases tf (decide ((0 : Int) ≤ idxI (pKey a) (List.take i l))) with tq2 | tq2
      · exact absurd hb (by simp [badA, tq0, tq1, tq2])
      · exact at_3 l a i h hx hs tq0 tq1 tq2

theorem atStop (l : List At) (a : At) (i : Nat) (h : i < l.length) (hx : l[i]? = some a) (hs : l.length ≤ 1000000000) (hb : badA l i a = true) : CodeC Try.prog 0 33 atB (atS l false i) .ret (atS l false i) := by
  rcases tf (!nameB (At.key a)) with tq0 | tq0
  · exact at_0 l a i h hx hs tq0
  · rcases tf (decide (Int.ofNat (ByteArray.size (At.val a)) > (16 : Int))) with tq1 | tq1
    · exact at_1 l a i h hx hs tq0 tq1
    · rcases tf (decide ((0 : Int) ≤ idxI (pKey a) (List.take i l))) with tq2 | tq2
      · exact at_2 l a i h hx hs tq0 tq1 tq2
      · exact absurd hb (by (try simp only [Int.ofNat_eq_natCast, List.length_map, Bool.not_eq_true', Bool.not_eq_false', decide_eq_true_eq, decide_eq_false_iff_not] at tq0 tq1 tq2); simp [badA, tq0, tq1, tq2])

theorem atE (l : List At) (i : Nat) (h : l.length ≤ i)  : CodeC Try.prog 0 33 atB (atS l false i) (.exit 0) (atS l false i) :=
 runS hmix [.reg 2 [(0, [], some false)]] ⟨[0, 2, 5, 6, 7], [], []⟩ [⟨dge h⟩]

theorem atBad (l : List At) (i : Nat) (hl : LoopC Try.prog 0 33 atB (atS l false 0) .ret (atS l false i)) : Contract Try.prog 100 [.sl 2 (l.map At.row)] [] (Bo false) [] :=
 vcS hmix [.reg 1 [(1, [.be (I (l.length : Int))], none)], .cut ⟨[0, 2, 5, 6, 7], [], []⟩ .ret (atS l false i)] [] [⟨lenm At.row l⟩, ⟨hl⟩]

theorem atGood (l : List At) (hl : LoopC Try.prog 0 33 atB (atS l false 0) (.exit 0) (atS l false l.length)) : Contract Try.prog 100 [.sl 2 (l.map At.row)] [] (Bo (decide ((l.length : Int) ≤ 4))) [] :=
 vcS hmix [.reg 1 [(1, [.be (I (l.length : Int))], none)], .cut ⟨[0, 2, 5, 6, 7], [], []⟩ (.exit 0) (atS l false l.length), .reg 7 [(1, [.be (I (l.length : Int))], none)]] [] [⟨lenm At.row l⟩, ⟨hl⟩, ⟨lenm At.row l⟩]

theorem cAttrs (l : List At) (hs : l.length ≤ 1000000000) : Contract Try.prog 100 [.sl 2 (l.map At.row)] [] (Bo (attrsB l)) [] := by
  rcases LoopC.search (P := Try.prog) (k := 0) (n := 33) (c := atB) l (badA l) (fun i => atS l false i) (fun i => atS l false i) (e1 := .ret) (e2 := .exit 0) (by simp) (by simp)
    (fun i a hx hi hb => atGo l a i hi hx hs hb) (fun i a hx hi hb => atStop l a i hi hx hs hb) (atE l _ (Nat.le_refl _)) with ⟨i, a, k1, k2, _, k4⟩ | ⟨k1, k2⟩
  · rw [attrs_bad k1 k2]; exact atBad l i k4
  · rw [attrs_good k1]; exact atGood l k2

theorem cRight_0 (s : Sp) (hs : s.attrs.length ≤ 1000000000) (tq0 : (nameB (Sp.svc s)) = true) (tq1 : (nameB (Sp.op s)) = true) (tq2 : (decide (Sp.start s ≥ (0 : Int))) = true) (tq3 : (decide (Sp.start s ≤ (1099511627776 : Int))) = true) (tq4 : (decide (Sp.dur s ≥ (0 : Int))) = true) (tq5 : (decide (Sp.dur s ≤ (1073741824 : Int))) = true) (tq6 : (decide (Int.ofNat (List.length (Sp.attrs s)) ≤ (4 : Int))) = true) : Contract Try.prog 88 [s.v] [] (Bo (attrsB (Sp.attrs s))) ([]) :=
 vcS hmix [.reg 1 [(3, [], some true), (8, [], some true), (13, [], some true), (18, [], some true), (23, [], some true), (28, [], some true), (31, [.be (I (s.attrs.length : Int))], none), (34, [], some true), (37, [.call [] [] (Bo (attrsB s.attrs)) []], none)], .tab [(99, FName)]] [] [⟨(by exact cName _ : Contract Try.prog 99 [Sg (Sp.svc s)] [] (Bo (nameB (Sp.svc s))) [])⟩, ⟨tq0⟩, ⟨(by exact cName _ : Contract Try.prog 99 [Sg (Sp.op s)] [] (Bo (nameB (Sp.op s))) [])⟩, ⟨tq1⟩, ⟨tq2⟩, ⟨tq3⟩, ⟨tq4⟩, ⟨tq5⟩, ⟨lenm At.row (Sp.attrs s)⟩, ⟨tq6⟩, ⟨cAttrs _ hs⟩]

theorem cRight_1 (s : Sp) (hs : s.attrs.length ≤ 1000000000) (tq0 : (nameB (Sp.svc s)) = true) (tq1 : (nameB (Sp.op s)) = true) (tq2 : (decide (Sp.start s ≥ (0 : Int))) = true) (tq3 : (decide (Sp.start s ≤ (1099511627776 : Int))) = true) (tq4 : (decide (Sp.dur s ≥ (0 : Int))) = true) (tq5 : (decide (Sp.dur s ≤ (1073741824 : Int))) = true) (tq6 : (decide (Int.ofNat (List.length (Sp.attrs s)) ≤ (4 : Int))) = false) : Contract Try.prog 88 [s.v] [] (Bo false) ([]) :=
 vcS hmix [.reg 1 [(3, [], some true), (8, [], some true), (13, [], some true), (18, [], some true), (23, [], some true), (28, [], some true), (31, [.be (I (s.attrs.length : Int))], none), (34, [], some false), (37, [.call [] [] (Bo (attrsB s.attrs)) []], none)], .tab [(99, FName)]] [] [⟨(by exact cName _ : Contract Try.prog 99 [Sg (Sp.svc s)] [] (Bo (nameB (Sp.svc s))) [])⟩, ⟨tq0⟩, ⟨(by exact cName _ : Contract Try.prog 99 [Sg (Sp.op s)] [] (Bo (nameB (Sp.op s))) [])⟩, ⟨tq1⟩, ⟨tq2⟩, ⟨tq3⟩, ⟨tq4⟩, ⟨tq5⟩, ⟨lenm At.row (Sp.attrs s)⟩, ⟨tq6⟩]

theorem cRight_2 (s : Sp) (hs : s.attrs.length ≤ 1000000000) (tq0 : (nameB (Sp.svc s)) = true) (tq1 : (nameB (Sp.op s)) = true) (tq2 : (decide (Sp.start s ≥ (0 : Int))) = true) (tq3 : (decide (Sp.start s ≤ (1099511627776 : Int))) = true) (tq4 : (decide (Sp.dur s ≥ (0 : Int))) = true) (tq5 : (decide (Sp.dur s ≤ (1073741824 : Int))) = false) : Contract Try.prog 88 [s.v] [] (Bo false) ([]) :=
 vcS hmix [.reg 1 [(3, [], some true), (8, [], some true), (13, [], some true), (18, [], some true), (23, [], some true), (28, [], some false), (31, [.be (I (s.attrs.length : Int))], none), (37, [.call [] [] (Bo (attrsB s.attrs)) []], none)], .tab [(99, FName)]] [] [⟨(by exact cName _ : Contract Try.prog 99 [Sg (Sp.svc s)] [] (Bo (nameB (Sp.svc s))) [])⟩, ⟨tq0⟩, ⟨(by exact cName _ : Contract Try.prog 99 [Sg (Sp.op s)] [] (Bo (nameB (Sp.op s))) [])⟩, ⟨tq1⟩, ⟨tq2⟩, ⟨tq3⟩, ⟨tq4⟩, ⟨tq5⟩]

theorem cRight_3 (s : Sp) (hs : s.attrs.length ≤ 1000000000) (tq0 : (nameB (Sp.svc s)) = true) (tq1 : (nameB (Sp.op s)) = true) (tq2 : (decide (Sp.start s ≥ (0 : Int))) = true) (tq3 : (decide (Sp.start s ≤ (1099511627776 : Int))) = true) (tq4 : (decide (Sp.dur s ≥ (0 : Int))) = false) : Contract Try.prog 88 [s.v] [] (Bo false) ([]) :=
 vcS hmix [.reg 1 [(3, [], some true), (8, [], some true), (13, [], some true), (18, [], some true), (23, [], some false), (31, [.be (I (s.attrs.length : Int))], none), (37, [.call [] [] (Bo (attrsB s.attrs)) []], none)], .tab [(99, FName)]] [] [⟨(by exact cName _ : Contract Try.prog 99 [Sg (Sp.svc s)] [] (Bo (nameB (Sp.svc s))) [])⟩, ⟨tq0⟩, ⟨(by exact cName _ : Contract Try.prog 99 [Sg (Sp.op s)] [] (Bo (nameB (Sp.op s))) [])⟩, ⟨tq1⟩, ⟨tq2⟩, ⟨tq3⟩, ⟨tq4⟩]

theorem cRight_4 (s : Sp) (hs : s.attrs.length ≤ 1000000000) (tq0 : (nameB (Sp.svc s)) = true) (tq1 : (nameB (Sp.op s)) = true) (tq2 : (decide (Sp.start s ≥ (0 : Int))) = true) (tq3 : (decide (Sp.start s ≤ (1099511627776 : Int))) = false) : Contract Try.prog 88 [s.v] [] (Bo false) ([]) :=
 vcS hmix [.reg 1 [(3, [], some true), (8, [], some true), (13, [], some true), (18, [], some false), (31, [.be (I (s.attrs.length : Int))], none), (37, [.call [] [] (Bo (attrsB s.attrs)) []], none)], .tab [(99, FName)]] [] [⟨(by exact cName _ : Contract Try.prog 99 [Sg (Sp.svc s)] [] (Bo (nameB (Sp.svc s))) [])⟩, ⟨tq0⟩, ⟨(by exact cName _ : Contract Try.prog 99 [Sg (Sp.op s)] [] (Bo (nameB (Sp.op s))) [])⟩, ⟨tq1⟩, ⟨tq2⟩, ⟨tq3⟩]

theorem cRight_5 (s : Sp) (hs : s.attrs.length ≤ 1000000000) (tq0 : (nameB (Sp.svc s)) = true) (tq1 : (nameB (Sp.op s)) = true) (tq2 : (decide (Sp.start s ≥ (0 : Int))) = false) : Contract Try.prog 88 [s.v] [] (Bo false) ([]) :=
 vcS hmix [.reg 1 [(3, [], some true), (8, [], some true), (13, [], some false), (31, [.be (I (s.attrs.length : Int))], none), (37, [.call [] [] (Bo (attrsB s.attrs)) []], none)], .tab [(99, FName)]] [] [⟨(by exact cName _ : Contract Try.prog 99 [Sg (Sp.svc s)] [] (Bo (nameB (Sp.svc s))) [])⟩, ⟨tq0⟩, ⟨(by exact cName _ : Contract Try.prog 99 [Sg (Sp.op s)] [] (Bo (nameB (Sp.op s))) [])⟩, ⟨tq1⟩, ⟨tq2⟩]

theorem cRight_6 (s : Sp) (hs : s.attrs.length ≤ 1000000000) (tq0 : (nameB (Sp.svc s)) = true) (tq1 : (nameB (Sp.op s)) = false) : Contract Try.prog 88 [s.v] [] (Bo false) ([]) :=
 vcS hmix [.reg 1 [(3, [], some true), (8, [], some false), (31, [.be (I (s.attrs.length : Int))], none), (37, [.call [] [] (Bo (attrsB s.attrs)) []], none)], .tab [(99, FName)]] [] [⟨(by exact cName _ : Contract Try.prog 99 [Sg (Sp.svc s)] [] (Bo (nameB (Sp.svc s))) [])⟩, ⟨tq0⟩, ⟨(by exact cName _ : Contract Try.prog 99 [Sg (Sp.op s)] [] (Bo (nameB (Sp.op s))) [])⟩, ⟨tq1⟩]

theorem cRight_7 (s : Sp) (hs : s.attrs.length ≤ 1000000000) (tq0 : (nameB (Sp.svc s)) = false) : Contract Try.prog 88 [s.v] [] (Bo false) ([]) :=
 vcS hmix [.reg 1 [(3, [], some false), (31, [.be (I (s.attrs.length : Int))], none), (37, [.call [] [] (Bo (attrsB s.attrs)) []], none)], .tab [(99, FName)]] [] [⟨(by exact cName _ : Contract Try.prog 99 [Sg (Sp.svc s)] [] (Bo (nameB (Sp.svc s))) [])⟩, ⟨tq0⟩]

theorem cRight (s : Sp) (hs : s.attrs.length ≤ 1000000000) : Contract Try.prog 88 [s.v] [] (Bo (rightS s)) [] := by
  rcases tf (nameB (Sp.svc s)) with tq0 | tq0
  · rcases tf (nameB (Sp.op s)) with tq1 | tq1
    · rcases tf (decide (Sp.start s ≥ (0 : Int))) with tq2 | tq2
      · rcases tf (decide (Sp.start s ≤ (1099511627776 : Int))) with tq3 | tq3
        · rcases tf (decide (Sp.dur s ≥ (0 : Int))) with tq4 | tq4
          · rcases tf (decide (Sp.dur s ≤ (1073741824 : Int))) with tq5 | tq5
            · rcases tf (decide (Int.ofNat (List.length (Sp.attrs s)) ≤ (4 : Int))) with tq6 | tq6
              · exact Contract.cast (by (try simp only [Int.ofNat_eq_natCast, List.length_map, Bool.not_eq_true', Bool.not_eq_false', decide_eq_true_eq, decide_eq_false_iff_not] at tq0 tq1 tq2 tq3 tq4 tq5 tq6); simp [rightS, withinB, tq0, tq1, tq2, tq3, tq4, tq5, tq6]) rfl (cRight_0 s hs tq0 tq1 tq2 tq3 tq4 tq5 tq6)
              · exact Contract.cast (by (try simp only [Int.ofNat_eq_natCast, List.length_map, Bool.not_eq_true', Bool.not_eq_false', decide_eq_true_eq, decide_eq_false_iff_not] at tq0 tq1 tq2 tq3 tq4 tq5 tq6); simp [rightS, withinB, tq0, tq1, tq2, tq3, tq4, tq5, tq6]) rfl (cRight_1 s hs tq0 tq1 tq2 tq3 tq4 tq5 tq6)
            · exact Contract.cast (by simp only [rightS, withinB, tq0, tq1, tq2, tq3, tq4, tq5, cond_true, cond_false]; rfl) rfl (cRight_2 s hs tq0 tq1 tq2 tq3 tq4 tq5)
          · exact Contract.cast (by simp only [rightS, withinB, tq0, tq1, tq2, tq3, tq4, cond_true, cond_false]; rfl) rfl (cRight_3 s hs tq0 tq1 tq2 tq3 tq4)
        · exact Contract.cast (by simp only [rightS, withinB, tq0, tq1, tq2, tq3, cond_true, cond_false]; rfl) rfl (cRight_4 s hs tq0 tq1 tq2 tq3)
      · exact Contract.cast (by simp only [rightS, withinB, tq0, tq1, tq2, cond_true, cond_false]; rfl) rfl (cRight_5 s hs tq0 tq1 tq2)
    · exact Contract.cast (by simp only [rightS, withinB, tq0, tq1, cond_true, cond_false]; rfl) rfl (cRight_6 s hs tq0 tq1)
  · exact Contract.cast (by simp only [rightS, withinB, tq0, cond_true, cond_false]; rfl) rfl (cRight_7 s hs tq0)

end Go.Proofs.Ytdomjccibhgbjaa

/- Sorting that keeps the order of equals: plain lists. -/
namespace Go.Proofs.Ytdomjccibhgbjaa
set_option linter.unusedVariables false
set_option linter.unusedSimpArgs false

section
variable {α : Type} (lt : α → α → Bool)
/-- Two lists, merged: the first one's is ahead but where the second one's is less. -/
def mrg : List α → List α → List α
  | [], B => B
  | A, [] => A
  | a :: A, b :: B => bif lt b a then b :: mrg (a :: A) B else a :: mrg A (b :: B)
termination_by A B => A.length + B.length
variable {lt}
theorem mrg_nil_l (B : List α) : mrg lt [] B = B := by rw [mrg]
theorem mrg_nil_r : ∀ A : List α, mrg lt A [] = A
  | [] => by rw [mrg]
  | a :: A => by rw [mrg]; simp
theorem mrg_cons (a b : α) (A B : List α) : mrg lt (a :: A) (b :: B) = bif lt b a then b :: mrg lt (a :: A) B else a :: mrg lt A (b :: B) := by rw [mrg]

/-- A strict weak order. -/
structure Swo (lt : α → α → Bool) : Prop where
  asymm : ∀ {a b}, lt a b = true → lt b a = false
  trans : ∀ {a b c}, lt b a = false → lt c b = false → lt c a = false       -- a ≤ b ≤ c
variable (lt) in
/-- In order. -/
def Srt (l : List α) : Prop := l.Pairwise (fun a b => lt b a = false)

theorem Swo.lt_of_lt_le {lt : α → α → Bool} (h : Swo lt) {a b c : α} (h1 : lt a b = true) (h2 : lt c b = false) : lt a c = true := by
  -- a < b ≤ c
  cases h3 : lt a c with
  | true => rfl
  | false =>
    have := h.trans (a := b) (b := c) (c := a) h2 h3
    rw [this] at h1; cases h1
theorem Swo.lt_of_le_lt {lt : α → α → Bool} (h : Swo lt) {a b c : α} (h1 : lt b a = false) (h2 : lt b c = true) : lt a c = true := by
  -- a ≤ b < c
  cases h3 : lt a c with
  | true => rfl
  | false =>
    have := h.trans (a := c) (b := a) (c := b) h3 h1
    rw [this] at h2; cases h2

theorem mrg_len : ∀ A B : List α, (mrg lt A B).length = A.length + B.length
  | [], B => by rw [mrg_nil_l]; simp
  | a :: A, [] => by rw [mrg_nil_r]; simp
  | a :: A, b :: B => by
    rw [mrg_cons]
    cases lt b a with
    | true => simp only [cond_true, List.length_cons, mrg_len (a :: A) B]; omega
    | false => simp only [cond_false, List.length_cons, mrg_len A (b :: B)]; omega
termination_by A B => A.length + B.length

theorem mrg_mem : ∀ (A B : List α) (z : α), z ∈ mrg lt A B → z ∈ A ∨ z ∈ B
  | [], B, z, h => by rw [mrg_nil_l] at h; exact .inr h
  | a :: A, [], z, h => by rw [mrg_nil_r] at h; exact .inl h
  | a :: A, b :: B, z, h => by
    rw [mrg_cons] at h
    cases hb : lt b a with
    | true =>
      rw [hb] at h
      simp only [cond_true, List.mem_cons] at h
      rcases h with rfl | h
      · exact .inr (by simp)
      · rcases mrg_mem (a :: A) B z h with h | h
        · exact .inl h
        · exact .inr (by simp [h])
    | false =>
      rw [hb] at h
      simp only [cond_false, List.mem_cons] at h
      rcases h with rfl | h
      · exact .inl (by simp)
      · rcases mrg_mem A (b :: B) z h with h | h
        · exact .inl (by simp [h])
        · exact .inr h
termination_by A B => A.length + B.length

theorem mrg_srt (ho : Swo lt) : ∀ {A B : List α}, Srt lt A → Srt lt B → Srt lt (mrg lt A B)
  | [], B, _, h => by rw [mrg_nil_l]; exact h
  | a :: A, [], h, _ => by rw [mrg_nil_r]; exact h
  | a :: A, b :: B, hA, hB => by
    have hA' := List.pairwise_cons.1 hA
    have hB' := List.pairwise_cons.1 hB
    rw [mrg_cons]
    cases hb : lt b a with
    | true =>
      simp only [cond_true]
      refine List.pairwise_cons.2 ⟨fun z hz => ?_, mrg_srt ho hA hB'.2⟩
      rcases mrg_mem (a :: A) B z hz with h | h
      · have hba := ho.asymm hb
        rcases List.mem_cons.1 h with rfl | h
        · exact hba
        · exact ho.trans hba (hA'.1 z h)
      · exact hB'.1 z h
    | false =>
      simp only [cond_false]
      refine List.pairwise_cons.2 ⟨fun z hz => ?_, mrg_srt ho hA'.2 hB⟩
      rcases mrg_mem A (b :: B) z hz with h | h
      · exact hA'.1 z h
      · rcases List.mem_cons.1 h with rfl | h
        · exact hb
        · exact ho.trans hb (hB'.1 z h)
termination_by A B => A.length + B.length

/-- Cut at places that fit. -/
theorem mrg_append (ho : Swo lt) : ∀ (A1 B1 A2 B2 : List α), (∀ x ∈ A1, ∀ y ∈ B2, lt y x = false) → (∀ y ∈ B1, ∀ x ∈ A2, lt y x = true) → mrg lt (A1 ++ A2) (B1 ++ B2) = mrg lt A1 B1 ++ mrg lt A2 B2
  | [], [], A2, B2, _, _ => by rw [mrg_nil_l]; rfl
  | [], b :: B1, A2, B2, h1, h2 => by
    rw [mrg_nil_l]
    have ih := mrg_append ho [] B1 A2 B2 h1 (fun y hy => h2 y (by simp [hy]))
    rw [mrg_nil_l] at ih
    cases A2 with
    | nil => simp only [List.append_nil, List.nil_append, mrg_nil_l]
    | cons a A2 =>
      have := h2 b (by simp) a (by simp)
      simp only [List.nil_append, List.cons_append] at ih ⊢
      rw [mrg_cons, this]
      simp only [cond_true]
      rw [ih]
  | a :: A1, [], A2, B2, h1, h2 => by
    rw [mrg_nil_r]
    have ih := mrg_append ho A1 [] A2 B2 (fun x hx => h1 x (by simp [hx])) h2
    rw [mrg_nil_r] at ih
    cases B2 with
    | nil => simp only [List.append_nil, mrg_nil_r]
    | cons b B2 =>
      have := h1 a (by simp) b (by simp)
      simp only [List.nil_append, List.cons_append] at ih ⊢
      rw [mrg_cons, this]
      simp only [cond_false]
      rw [ih]
  | a :: A1, b :: B1, A2, B2, h1, h2 => by
    simp only [List.cons_append]
    rw [mrg_cons, mrg_cons]
    cases hb : lt b a with
    | true =>
      simp only [cond_true, List.cons_append]
      have ih := mrg_append ho (a :: A1) B1 A2 B2 h1 (fun y hy => h2 y (by simp [hy]))
      simp only [List.cons_append] at ih
      rw [ih]
    | false =>
      simp only [cond_false, List.cons_append]
      have ih := mrg_append ho A1 (b :: B1) A2 B2 (fun x hx => h1 x (by simp [hx])) h2
      simp only [List.cons_append] at ih
      rw [ih]
termination_by A1 B1 => A1.length + B1.length

theorem mrg_assoc (ho : Swo lt) : ∀ (A B C : List α), mrg lt (mrg lt A B) C = mrg lt A (mrg lt B C)
  | [], B, C => by rw [mrg_nil_l, mrg_nil_l]
  | a :: A, [], C => by rw [mrg_nil_r, mrg_nil_l]
  | a :: A, b :: B, [] => by rw [mrg_nil_r, mrg_nil_r]
  | a :: A, b :: B, c :: C => by
    rw [mrg_cons a b A B, mrg_cons b c B C]
    cases h1 : lt b a with
    | true =>
      cases h2 : lt c b with
      | true =>
        simp only [cond_true]
        rw [mrg_cons, h2]
        have h3 : lt c a = true := by
          have := ho.asymm h1
          exact ho.lt_of_lt_le h2 this
        rw [mrg_cons, h3]
        simp only [cond_true]
        have ih := mrg_assoc ho (a :: A) (b :: B) C
        rw [mrg_cons a b A B, h1] at ih
        simp only [cond_true] at ih
        rw [ih]
      | false =>
        simp only [cond_true, cond_false]
        rw [mrg_cons, h2]
        rw [mrg_cons, h1]
        simp only [cond_true, cond_false]
        rw [mrg_assoc ho (a :: A) B (c :: C)]
    | false =>
      cases h2 : lt c b with
      | true =>
        simp only [cond_true, cond_false]
        cases h3 : lt c a with
        | true =>
          rw [mrg_cons, h3, mrg_cons, h3]
          simp only [cond_true]
          have ih := mrg_assoc ho (a :: A) (b :: B) C
          rw [mrg_cons a b A B, h1] at ih
          simp only [cond_false] at ih
          rw [ih]
        | false =>
          rw [mrg_cons, h3, mrg_cons, h3]
          simp only [cond_false]
          have ih := mrg_assoc ho A (b :: B) (c :: C)
          rw [mrg_cons b c B C, h2] at ih
          simp only [cond_true] at ih
          rw [ih]
      | false =>
        simp only [cond_false]
        have h3 : lt c a = false := ho.trans h1 h2
        rw [mrg_cons, h3, mrg_cons, h1]
        simp only [cond_false]
        have ih := mrg_assoc ho A (b :: B) (c :: C)
        rw [mrg_cons b c B C, h2] at ih
        simp only [cond_false] at ih
        rw [ih]
termination_by A B C => A.length + B.length + C.length

variable (lt) in
/-- Sorted, equals in their order. -/
def srt (l : List α) : List α := l.foldl (fun L x => mrg lt L [x]) []
theorem srt_snoc (l : List α) (x : α) : srt lt (l ++ [x]) = mrg lt (srt lt l) [x] := by
  unfold srt; rw [List.foldl_append]; rfl
theorem srt_nil : srt lt ([] : List α) = [] := rfl
theorem snoc_ind {P : List α → Prop} (h0 : P []) (h1 : ∀ l a, P l → P (l ++ [a])) (l : List α) : P l := by
  have : ∀ l : List α, P l.reverse := by
    intro l
    induction l with
    | nil => exact h0
    | cons a l ih => rw [List.reverse_cons]; exact h1 _ _ ih
  have h := this l.reverse
  rwa [List.reverse_reverse] at h
theorem srt_len (l : List α) : (srt lt l).length = l.length := by
  refine snoc_ind (P := fun l => (srt lt l).length = l.length) rfl (fun l a ih => ?_) l
  rw [srt_snoc, mrg_len, ih]; simp
theorem srt_srt (ho : Swo lt) (l : List α) : Srt lt (srt lt l) := by
  refine snoc_ind (P := fun l => Srt lt (srt lt l)) List.Pairwise.nil (fun l a ih => ?_) l
  rw [srt_snoc]
  exact mrg_srt ho ih (List.pairwise_singleton _ _)
theorem srt_mem (l : List α) (z : α) : z ∈ srt lt l → z ∈ l := by
  refine snoc_ind (P := fun l => z ∈ srt lt l → z ∈ l) (fun h => h) (fun l a ih h => ?_) l
  rw [srt_snoc] at h
  rcases mrg_mem _ _ z h with h | h
  · simp [ih h]
  · simp at h; simp [h]
theorem srt_append (ho : Swo lt) (l1 l2 : List α) : srt lt (l1 ++ l2) = mrg lt (srt lt l1) (srt lt l2) := by
  refine snoc_ind (P := fun l2 => srt lt (l1 ++ l2) = mrg lt (srt lt l1) (srt lt l2)) ?_ (fun l a ih => ?_) l2
  · rw [List.append_nil, srt_nil, mrg_nil_r]
  · rw [← List.append_assoc, srt_snoc, ih, srt_snoc, mrg_assoc ho]
/-- One put into a list that is in order. -/
theorem mrg_one (ho : Swo lt) : ∀ (A1 : List α) (x : α) (A2 : List α), (∀ y ∈ A1, lt x y = false) → (∀ y ∈ A2, lt x y = true) → mrg lt (A1 ++ A2) [x] = A1 ++ x :: A2 := by
  intro A1 x A2 h1 h2
  have := mrg_append ho A1 [] A2 [x] (fun y hy z hz => by simp at hz; subst hz; exact h1 y hy) (by simp)
  rw [List.nil_append, mrg_nil_r] at this
  rw [this]
  congr 1
  cases A2 with
  | nil => rw [mrg_nil_l]
  | cons a A2 =>
    rw [mrg_cons, h2 a (by simp)]
    simp only [cond_true]
    rw [mrg_nil_r]
theorem mrg_one_l (ho : Swo lt) : ∀ (B1 : List α) (x : α) (B2 : List α), (∀ y ∈ B1, lt y x = true) → (∀ y ∈ B2, lt y x = false) → mrg lt [x] (B1 ++ B2) = B1 ++ x :: B2 := by
  intro B1 x B2 h1 h2
  have := mrg_append ho [] B1 [x] B2 (by simp) (fun y hy z hz => by simp at hz; subst hz; exact h1 y hy)
  rw [List.nil_append, mrg_nil_l] at this
  rw [this]
  congr 1
  cases B2 with
  | nil => rw [mrg_nil_r]
  | cons b B2 =>
    rw [mrg_cons, h2 b (by simp)]
    simp only [cond_false]
    rw [mrg_nil_l]
theorem srt_of_sorted (ho : Swo lt) {l : List α} (h : Srt lt l) : srt lt l = l := by
  refine snoc_ind (P := fun l => Srt lt l → srt lt l = l) (fun _ => rfl) (fun l a ih h => ?_) l h
  have h' := List.pairwise_append.1 h
  rw [srt_snoc, ih h'.1]
  have := mrg_one ho l a [] (fun y hy => h'.2.2 y hy a (by simp)) (by simp)
  simpa using this
end

/-- A place where a test turns, looked for by halves. -/
theorem half_lt {i j : Nat} (h : i < j) : i ≤ (i + j) / 2 ∧ (i + j) / 2 < j := by omega

end Go.Proofs.Ytdomjccibhgbjaa

/- A loop that looks by halves; swapping in lists. -/
namespace Go.Proofs.Ytdomjccibhgbjaa.E
open Go
set_option linter.unusedSimpArgs false

/-- A loop that looks, by halves, for the place where a test turns. -/
theorem LoopC.half {P : Program} {k n : Nat} {c : Code} (pr : Nat → Bool) (S : Nat → Nat → SL) {e : Ex} (he : e ≠ .normal) (lo hi : Nat) (hmono : ∀ i j, lo ≤ i → i ≤ j → j < hi → pr j = true → pr i = true)
    (hgo : ∀ i j, lo ≤ i → i < j → j ≤ hi → pr ((i + j) / 2) = true → CodeC P k n c (S i j) .normal (S ((i + j) / 2 + 1) j))
    (hback : ∀ i j, lo ≤ i → i < j → j ≤ hi → pr ((i + j) / 2) = false → CodeC P k n c (S i j) .normal (S i ((i + j) / 2)))
    (hend : ∀ i, lo ≤ i → i ≤ hi → CodeC P k n c (S i i) e (S i i)) (hl : lo ≤ hi) :
    ∃ r, lo ≤ r ∧ r ≤ hi ∧ (∀ q, lo ≤ q → q < r → pr q = true) ∧ (∀ q, r ≤ q → q < hi → pr q = false) ∧ LoopC P k n c (S lo hi) e (S r r) := by
  have key : ∀ (d i j : Nat), j - i ≤ d → lo ≤ i → i ≤ j → j ≤ hi → (∀ q, lo ≤ q → q < i → pr q = true) → (∀ q, j ≤ q → q < hi → pr q = false) →
      ∃ r, lo ≤ r ∧ r ≤ hi ∧ (∀ q, lo ≤ q → q < r → pr q = true) ∧ (∀ q, r ≤ q → q < hi → pr q = false) ∧ LoopC P k n c (S i j) e (S r r) := by
    intro d
    induction d with
    | zero =>
      intro i j hd h1 h2 h3 ht hf
      have : i = j := by omega
      subst this
      exact ⟨i, h1, h3, ht, hf, LoopC.last (hend i h1 h3) he⟩
    | succ d ih =>
      intro i j hd h1 h2 h3 ht hf
      by_cases hij : i = j
      · subst hij
        exact ⟨i, h1, h3, ht, hf, LoopC.last (hend i h1 h3) he⟩
      · have hm : i ≤ (i + j) / 2 ∧ (i + j) / 2 < j := by omega
        cases hp : pr ((i + j) / 2) with
        | true =>
          obtain ⟨r, r1, r2, r3, r4, r5⟩ := ih ((i + j) / 2 + 1) j (by omega) (by omega) (by omega) h3
            (fun q q1 q2 => hmono q ((i + j) / 2) q1 (by omega) (by omega) hp) hf
          exact ⟨r, r1, r2, r3, r4, LoopC.next (hgo i j h1 (by omega) h3 hp) r5⟩
        | false =>
          obtain ⟨r, r1, r2, r3, r4, r5⟩ := ih i ((i + j) / 2) (by omega) h1 (by omega) (by omega) ht
            (fun q q1 q2 => by
              cases hq : pr q with
              | false => rfl
              | true => have := hmono ((i + j) / 2) q (by omega) q1 q2 hq; rw [this] at hp; cases hp)
          exact ⟨r, r1, r2, r3, r4, LoopC.next (hback i j h1 (by omega) h3 hp) r5⟩
  exact key (hi - lo) lo hi (Nat.le_refl _) (Nat.le_refl _) hl (Nat.le_refl _) (fun q q1 q2 => by omega) (fun q q1 q2 => by omega)

/-! ### what stands where in a list that is written out -/
section
variable {α : Type} {f : α → List V}
theorem at1 {A B : List α} {x : α} {j : Nat} (h : j = A.length) : ((A ++ x :: B).map f)[j]? = some (f x) := by subst h; simp
theorem at2 {A B : List α} {y x : α} {j : Nat} (h : j = A.length + 1) : ((A ++ y :: x :: B).map f)[j]? = some (f x) := by
  subst h
  rw [List.map_append, List.getElem?_append_right (by simp)]
  simp
theorem at3 {A M B : List α} {x y : α} {j : Nat} (h : j = A.length + 1 + M.length) : ((A ++ x :: (M ++ y :: B)).map f)[j]? = some (f y) := by
  subst h
  rw [List.map_append, List.getElem?_append_right (by simp; omega)]
  simp only [List.length_map, List.map_cons]
  rw [show A.length + 1 + M.length - A.length = M.length + 1 by omega, List.getElem?_cons_succ, List.map_append, List.getElem?_append_right (by simp)]
  simp
theorem set1 {A B : List α} {x z : α} {j : Nat} (h : j = A.length) : ((A ++ x :: B).map f).set j (f z) = (A ++ z :: B).map f := by
  subst h
  rw [← List.map_set]
  congr 1
  rw [List.set_append_right _ _ (by first | omega | (simp; omega))]
  simp
theorem set2 {A B : List α} {y x z : α} {j : Nat} (h : j = A.length + 1) : ((A ++ y :: x :: B).map f).set j (f z) = (A ++ y :: z :: B).map f := by
  subst h
  rw [← List.map_set]
  congr 1
  rw [List.set_append_right _ _ (by first | omega | (simp; omega))]
  simp
theorem set3 {A M B : List α} {x y z : α} {j : Nat} (h : j = A.length + 1 + M.length) : ((A ++ x :: (M ++ y :: B)).map f).set j (f z) = (A ++ x :: (M ++ z :: B)).map f := by
  subst h
  rw [← List.map_set]
  congr 1
  rw [List.set_append_right _ _ (by first | omega | (simp; omega)), show A.length + 1 + M.length - A.length = M.length + 1 by omega, List.set_cons_succ, List.set_append_right _ _ (by first | omega | (simp; omega))]
  simp
end
end Go.Proofs.Ytdomjccibhgbjaa.E
namespace Go.Proofs.Ytdomjccibhgbjaa.E
open Go
theorem halfW {i j : Nat} (h : i + j ≤ 4000000) : IntKind.i64.wrap (Int.fdiv (IntKind.u64.wrap (IntKind.i64.wrap (Int.ofNat (i + j)))) 2) = Int.ofNat ((i + j) / 2) := by
  rw [i64_small (n := Int.ofNat (i + j)) (by simp only [Int.ofNat_eq_natCast]; omega), u64_small (by simp only [Int.ofNat_eq_natCast]; omega), Int.fdiv_eq_ediv_of_nonneg _ (by omega)]
  simp only [Int.ofNat_eq_natCast]
  rw [i64_small (by omega)]
  omega
end Go.Proofs.Ytdomjccibhgbjaa.E

/- episodes: what compares them. -/
namespace Go.Proofs.Ytdomjccibhgbjaa
open E
set_option maxRecDepth 100000
set_option linter.unusedVariables false
set_option linter.unusedSimpArgs false

/-- An episode. -/
structure Ep where
  hi : Int
  lo : Int
  first : Int
  last : Int
  sure : Bool
  spans : List Sp
def Ep.row (e : Ep) : List V := [U e.hi, U e.lo, I e.first, I e.last, Bo e.sure, .sl 10 (e.spans.map Sp.row)]
def Ep.v (e : Ep) : V := .agg e.row
def cmpI (a b : Int) : Int := bif decide (a < b) then -1 else bif decide (a > b) then 1 else 0
def or2 (a b : Int) : Int := bif a != 0 then a else b
/-- Which episode's trace is ahead. -/
def cmpE (a b : Ep) : Int := or2 (cmpI a.hi b.hi) (cmpI a.lo b.lo)
def FNaI : List V → Option V := fun _ => some (Bo false)
def FCmpI : List V → Option V
  | [.val (.int _ a), .val (.int _ b)] => some (I (cmpI a b))
  | _ => none
def FOr2 : List V → Option V
  | [.sl _ [[.val (.int _ a)], [.val (.int _ b)]]] => some (I (or2 a b))
  | _ => none
theorem cNaI (n : Int)  : Contract Try.prog 92 [U n] [] (Bo false) [] :=
 vcS hmix [.reg 1 [(2, [], some false)]] [] [⟨(by simp : (n != n) = false)⟩]

theorem cCmpI_0 (a b : Int)  (tq0 : (decide (a < b)) = true) : Contract Try.prog 72 [U a, U b] [] (I (-1)) ([]) :=
 vcS hmix [.reg 9 [(2, [], some true)], .tab [(92, FNaI)]] [] [⟨(by exact cNaI _ : Contract Try.prog 92 [(U a)] [] (Bo false) [])⟩, ⟨(by exact cNaI _ : Contract Try.prog 92 [(U b)] [] (Bo false) [])⟩, ⟨tq0⟩]

theorem cCmpI_1 (a b : Int)  (tq0 : (decide (a < b)) = false) (tq1 : (decide (a > b)) = true) : Contract Try.prog 72 [U a, U b] [] (I 1) ([]) :=
 vcS hmix [.reg 9 [(2, [], some false)], .reg 11 [(2, [], some true)], .tab [(92, FNaI)]] [] [⟨(by exact cNaI _ : Contract Try.prog 92 [(U a)] [] (Bo false) [])⟩, ⟨(by exact cNaI _ : Contract Try.prog 92 [(U b)] [] (Bo false) [])⟩, ⟨tq0⟩, ⟨tq1⟩]

theorem cCmpI_2 (a b : Int)  (tq0 : (decide (a < b)) = false) (tq1 : (decide (a > b)) = false) : Contract Try.prog 72 [U a, U b] [] (I 0) ([]) :=
 vcS hmix [.reg 9 [(2, [], some false)], .reg 11 [(2, [], some false)], .tab [(92, FNaI)]] [] [⟨(by exact cNaI _ : Contract Try.prog 92 [(U a)] [] (Bo false) [])⟩, ⟨(by exact cNaI _ : Contract Try.prog 92 [(U b)] [] (Bo false) [])⟩, ⟨tq0⟩, ⟨tq1⟩]

theorem cCmpI (a b : Int)  : Contract Try.prog 72 [U a, U b] [] (I (cmpI a b)) [] := by
  rcases tf (decide (a < b)) with tq0 | tq0
  · exact Contract.cast (by simp only [cmpI, tq0, cond_true, cond_false]) rfl (cCmpI_0 a b  tq0)
  · rcases tf (decide (a > b)) with tq1 | tq1
    · exact Contract.cast (by simp only [cmpI, tq0, tq1, cond_true, cond_false]) rfl (cCmpI_1 a b  tq0 tq1)
    · exact Contract.cast (by simp only [cmpI, tq0, tq1, cond_true, cond_false]) rfl (cCmpI_2 a b  tq0 tq1)

theorem cOr2_0 (a b : Int)  (tq0 : (a != (0 : Int)) = true) : Contract Try.prog 71 [.sl 1 [[I a], [I b]]] [] (I a) ([]) :=
  vcP hmix [.unroll 4, .reg 5 [(2, [], some true)]] [] [
      (0 : Int) ≤ (0 : Int),
      (0 : Int) < (2 : Int),
      (a != (0 : Int)) = true] (by kernel_rfl)
    (by
      have d0 := tq0
      try simp only [Int.ofNat_eq_natCast, List.length_map, Bool.not_eq_true', Bool.not_eq_false', decide_eq_true_eq, decide_eq_false_iff_not] at d0
      simp only [allP]
      and_intros <;> first
        | omega)

theorem cOr2_1 (a b : Int)  (tq0 : (a != (0 : Int)) = false) (tq1 : (b != (0 : Int)) = true) : Contract Try.prog 71 [.sl 1 [[I a], [I b]]] [] (I b) ([]) :=
  vcP hmix [.unroll 4, .reg 5 [(2, [], some false)], .reg 5 [(2, [], some true)]] [] [
      (0 : Int) ≤ (0 : Int),
      (0 : Int) < (2 : Int),
      (a != (0 : Int)) = false,
      (0 : Int) ≤ (1 : Int),
      (1 : Int) < (2 : Int),
      (b != (0 : Int)) = true] (by kernel_rfl)
    (by
      have d0 := tq0
      have d1 := tq1
      try simp only [Int.ofNat_eq_natCast, List.length_map, Bool.not_eq_true', Bool.not_eq_false', decide_eq_true_eq, decide_eq_false_iff_not] at d0 d1
      simp only [allP]
      and_intros <;> first
        | omega)

theorem cOr2_2 (a b : Int)  (tq0 : (a != (0 : Int)) = false) (tq1 : (b != (0 : Int)) = false) : Contract Try.prog 71 [.sl 1 [[I a], [I b]]] [] (I (0 : Int)) ([]) :=
  vcP hmix [.unroll 4, .reg 5 [(2, [], some false)], .reg 5 [(2, [], some false)]] [] [
      (0 : Int) ≤ (0 : Int),
      (0 : Int) < (2 : Int),
      (a != (0 : Int)) = false,
      (0 : Int) ≤ (1 : Int),
      (1 : Int) < (2 : Int),
      (b != (0 : Int)) = false] (by kernel_rfl)
    (by
      have d0 := tq0
      have d1 := tq1
      try simp only [Int.ofNat_eq_natCast, List.length_map, Bool.not_eq_true', Bool.not_eq_false', decide_eq_true_eq, decide_eq_false_iff_not] at d0 d1
      simp only [allP]
      and_intros <;> first
        | omega)

theorem cOr2 (a b : Int)  : Contract Try.prog 71 [.sl 1 [[I a], [I b]]] [] (I (or2 a b)) [] := by
  rcases tf (a != (0 : Int)) with tq0 | tq0
  · exact Contract.cast (by simp only [or2, tq0, cond_true, cond_false]) rfl (cOr2_0 a b  tq0)
  · rcases tf (b != (0 : Int)) with tq1 | tq1
    · exact Contract.cast (by simp only [or2, tq0, tq1, cond_true, cond_false]) rfl (cOr2_1 a b  tq0 tq1)
    · exact Contract.cast (by (try simp only [Int.ofNat_eq_natCast, List.length_map, Bool.not_eq_true', Bool.not_eq_false', decide_eq_true_eq, decide_eq_false_iff_not] at tq0 tq1); simp only [or2, Bool.cond_eq_ite, Bool.and_eq_true, Bool.or_eq_true, Bool.not_eq_true', decide_eq_true_eq, beq_iff_eq, beq_eq_false_iff_ne, ne_eq]; (repeat' split) <;> first | rfl | (exfalso; omega) | omega | (simp_all; done) | (exfalso; simp_all; omega)) rfl (cOr2_2 a b  tq0 tq1)

theorem cCompare (a b : Ep)  : Contract Try.prog 43 [a.v, b.v] [] (I (cmpE a b)) [] :=
 vcS hmix [.tab [(72, FCmpI), (71, FOr2)]] [] [⟨(by exact cCmpI _ _ : Contract Try.prog 72 [(U (Ep.hi a)), (U (Ep.hi b))] [] (I (cmpI (Ep.hi a) (Ep.hi b))) [])⟩, ⟨(by exact cCmpI _ _ : Contract Try.prog 72 [(U (Ep.lo a)), (U (Ep.lo b))] [] (I (cmpI (Ep.lo a) (Ep.lo b))) [])⟩, ⟨(by exact cOr2 _ _ : Contract Try.prog 71 [.sl 1 [[I (cmpI (Ep.hi a) (Ep.hi b))], [I (cmpI (Ep.lo a) (Ep.lo b))]]] [] (I (or2 (cmpI (Ep.hi a) (Ep.hi b)) (cmpI (Ep.lo a) (Ep.lo b)))) [])⟩, ⟨(by simp : true = true)⟩]

end Go.Proofs.Ytdomjccibhgbjaa

/- spans and episodes, written. -/
namespace Go.Proofs.Ytdomjccibhgbjaa
open E
set_option maxRecDepth 100000
set_option linter.unusedVariables false
set_option linter.unusedSimpArgs false

def puS (R : List UInt8) (s : Sp) (i : Nat) : SL := ⟨[(0, .ptr 0 0 0 0), (44, .sl 2 (s.attrs.map At.row)), (45, I (s.attrs.length : Int)), (46, I (i : Int))], [(0, .box [.own 900]), (900, .arr 1 (R.map bR))], [0, 900, 0, 1]⟩
def attB (a : At) : List UInt8 := [a.key, a.val].flatMap textB
/-- A span's bytes. -/
def spanH (s : Sp) : List UInt8 := [s.hi, s.lo, s.id, s.par].flatMap vintI ++ [s.svc, s.op].flatMap textB ++ [s.start, s.dur].flatMap vintI ++ flagB s.err ++ vintI (s.attrs.length : Int)
def spanB (s : Sp) : List UInt8 := spanH s ++ s.attrs.flatMap attB
def wfS (s : Sp) : Prop := isU s.hi ∧ isU s.lo ∧ isU s.id ∧ isU s.par
def okS (s : Sp) : Prop := wfS s ∧ rightS s = true
def epH (e : Ep) : List UInt8 := [e.first, e.last].flatMap vintI ++ flagB e.sure ++ vintI (e.spans.length : Int)
/-- What is written of an episode: all but its trace. -/
def epB (e : Ep) : List UInt8 := epH e ++ e.spans.flatMap spanB
def peS (R : List UInt8) (e : Ep) (i : Nat) : SL := ⟨[(0, .ptr 0 0 0 0), (24, .sl 10 (e.spans.map Sp.row)), (25, I (e.spans.length : Int)), (26, I (i : Int))], [(0, .box [.own 900]), (900, .arr 1 (R.map bR))], [0, 900, 0, 1]⟩
noncomputable def puB : Code := codeAt Try.prog 75 [true, true, true, true, true, true, true, false, false]

noncomputable def peB : Code := codeAt Try.prog 47 [true, true, true, true, true, false, false]

theorem name_of {s : ByteArray} (h : nameB s = true) : s.size ≤ 16 := by
  unfold nameB withinB at h
  simp only [Bool.and_eq_true, decide_eq_true_eq] at h
  omega
theorem attrs_of {l : List At} (h : attrsB l = true) : l.length ≤ 4 ∧ ∀ a ∈ l, a.key.size ≤ 16 ∧ a.val.size ≤ 16 := by
  unfold attrsB at h
  simp only [Bool.and_eq_true, List.all_eq_true, decide_eq_true_eq] at h
  obtain ⟨h1, h2⟩ := h
  refine ⟨by omega, fun a ha => ?_⟩
  obtain ⟨i, hi⟩ := List.getElem?_of_mem ha
  have := h1 i (List.mem_range.2 (List.getElem?_eq_some_iff.1 hi).1)
  rw [hi] at this
  simp only [Bool.not_eq_true', badA, Bool.or_eq_false_iff, Bool.not_eq_false', decide_eq_false_iff_not] at this
  obtain ⟨⟨k1, k2⟩, _⟩ := this
  exact ⟨name_of k1, by omega⟩
theorem right_of {s : Sp} (h : rightS s = true) : s.svc.size ≤ 16 ∧ s.op.size ≤ 16 ∧ (0 ≤ s.start ∧ s.start ≤ 1099511627776) ∧ (0 ≤ s.dur ∧ s.dur ≤ 1073741824) ∧ s.attrs.length ≤ 4 ∧ ∀ a ∈ s.attrs, a.key.size ≤ 16 ∧ a.val.size ≤ 16 := by
  unfold rightS at h
  simp only [Bool.and_eq_true, decide_eq_true_eq] at h
  obtain ⟨⟨⟨⟨⟨h1, h2⟩, h3⟩, h4⟩, h5⟩, h6⟩ := h
  unfold withinB at h3 h4
  simp only [Bool.and_eq_true, decide_eq_true_eq] at h3 h4
  obtain ⟨k1, k2⟩ := attrs_of h6
  exact ⟨name_of h1, name_of h2, by omega, by omega, k1, k2⟩
theorem flagB_len (b : Bool) : (flagB b).length ≤ 10 := vintI_len _
theorem attB_len {a : At} (h : a.key.size ≤ 16 ∧ a.val.size ≤ 16) : (attB a).length ≤ 52 := by
  have h1 := textB_len a.key
  have h2 := textB_len a.val
  simp only [attB, List.flatMap_cons, List.flatMap_nil, List.append_nil, List.length_append]
  omega
theorem flat_len2 {α : Type} {f : α → List UInt8} {B : Nat} : ∀ {l : List α}, (∀ x ∈ l, (f x).length ≤ B) → (l.flatMap f).length ≤ l.length * B
  | [], _ => by simp
  | x :: l, h => by
    have h1 := h x (by simp)
    have h2 := flat_len2 (f := f) (l := l) (B := B) fun y hy => h y (by simp [hy])
    simp only [List.flatMap_cons, List.length_append, List.length_cons, Nat.succ_mul]
    omega
theorem spanH_len {s : Sp} (h : rightS s = true) : (spanH s).length ≤ 132 := by
  obtain ⟨h1, h2, _⟩ := right_of h
  have := textB_len s.svc
  have := textB_len s.op
  have := vintI_len s.hi
  have := vintI_len s.lo
  have := vintI_len s.id
  have := vintI_len s.par
  have := vintI_len s.start
  have := vintI_len s.dur
  have := flagB_len s.err
  have := vintI_len (s.attrs.length : Int)
  simp only [spanH, List.flatMap_cons, List.flatMap_nil, List.append_nil, List.length_append]
  omega
theorem spanB_len {s : Sp} (h : rightS s = true) : (spanB s).length ≤ 340 := by
  have h1 := spanH_len h
  obtain ⟨_, _, _, _, h5, h6⟩ := right_of h
  have h2 := flat_len2 (f := attB) (B := 52) fun a ha => attB_len (h6 a ha)
  have h3 : s.attrs.length * 52 ≤ 4 * 52 := Nat.mul_le_mul_right _ h5
  unfold spanB
  rw [List.length_append]
  omega
theorem isU_nat {n : Nat} (h : n ≤ 1000000000000) : isU (n : Int) := by unfold isU; omega
theorem puGo (R : List UInt8) (s : Sp) (x : At) (i : Nat) (hx : s.attrs[i]? = some x) (hi : i < s.attrs.length) (hu : x.key.size ≤ 16 ∧ x.val.size ≤ 16) (hs : s.attrs.length ≤ 4) (hR : R.length ≤ 70000000)  : CodeC Try.prog 2 58 puB (puS R s i) .normal (puS (R ++ attB x) s (i + 1)) :=
 runS hmix [.reg 7 [(0, [], some true)], .reg 8 [(1, [.row (At.row x)], none)], .reg 9 [(6, [.call [0, 900] [1806000] (.tup []) [some (.box [.own 2]), none, some (.arr 1 ((R ++ attB x).map bR))]], none)], .reg 10 [(0, [.be (I ((i + 1 : Nat) : Int))], none)]] ⟨[0, 44, 45, 46], [(0, 0), (1807001, 900)], []⟩ [⟨dlt hi⟩, ⟨nn i⟩, ⟨ltm At.row hi⟩, ⟨gtm At.row hx⟩, ⟨cText R [x.key, x.val] (by intro y hy; rcases List.mem_cons.1 hy with rfl | hy; omega; rcases List.mem_cons.1 hy with rfl | hy; omega; cases hy) (by simp) (by simp; omega)⟩, ⟨w64 (i + 1) (by omega)⟩]

theorem puE (R : List UInt8) (s : Sp) (i : Nat) (h : s.attrs.length ≤ i)  : CodeC Try.prog 2 58 puB (puS R s i) (.exit 0) (puS R s i) :=
 runS hmix [.reg 7 [(0, [], some false)]] ⟨[0, 44, 45, 46], [(0, 0), (900, 900)], []⟩ [⟨dge h⟩]

theorem puAll (s : Sp) (hs : s.attrs.length ≤ 4) (hu : ∀ a ∈ s.attrs, a.key.size ≤ 16 ∧ a.val.size ≤ 16) : ∀ (m i : Nat) (R : List UInt8), i + m = s.attrs.length → R.length + 52 * m ≤ 70000000 → LoopC Try.prog 2 58 puB (puS R s i) (.exit 0) (puS (R ++ (s.attrs.drop i).flatMap attB) s s.attrs.length)
  | 0, i, R, h, _ => by
    have : i = s.attrs.length := by omega
    subst this
    rw [List.drop_length]
    simp only [List.flatMap_nil, List.append_nil]
    exact LoopC.last (puE R s _ (Nat.le_refl _)) (by simp)
  | m + 1, i, R, h, hR => by
    have hi : i < s.attrs.length := by omega
    have hq := hu _ (List.getElem_mem hi)
    have hlen := attB_len hq
    have ih := puAll s hs hu m (i + 1) (R ++ attB s.attrs[i]) (by omega) (by simp; omega)
    rw [List.drop_eq_getElem_cons hi, List.flatMap_cons, ← List.append_assoc]
    exact LoopC.next (puGo R s s.attrs[i] i (List.getElem?_eq_getElem hi) hi hq hs (by omega)) ih
theorem put0 (R Q : List UInt8) (s : Sp) (h : wfS s) (h1 : s.svc.size ≤ 16) (h2 : s.op.size ≤ 16) (h3 : 0 ≤ s.start ∧ s.start ≤ 1099511627776) (h4 : 0 ≤ s.dur ∧ s.dur ≤ 1073741824) (h5 : s.attrs.length ≤ 4) (hR : R.length ≤ 60000000) (hl : LoopC Try.prog 2 58 puB (puS (((((R ++ [s.hi, s.lo, s.id, s.par].flatMap vintI) ++ [s.svc, s.op].flatMap textB) ++ [s.start, s.dur].flatMap vintI) ++ flagB s.err) ++ vintI (s.attrs.length : Int)) s 0) (.exit 0) (puS Q s s.attrs.length)) : Contract Try.prog 75 [.ptr 0 0 0 0, s.v] [.box [.own 1], .arr 1 (R.map bR)] (.tup []) [some (.box [.own 2]), none, some (.arr 1 ((Q).map bR))] :=
 vcS hmix [.reg 1 [(12, [.call [0, 1] [212000] (.tup []) [some (.box [.own 2]), none, some (.arr 1 (((R ++ [s.hi, s.lo, s.id, s.par].flatMap vintI)).map bR))]], none)], .reg 2 [(6, [.call [0, 213001] [406000] (.tup []) [some (.box [.own 2]), none, some (.arr 1 ((((R ++ [s.hi, s.lo, s.id, s.par].flatMap vintI) ++ [s.svc, s.op].flatMap textB)).map bR))]], none)], .reg 3 [(6, [.call [0, 407001] [606000] (.tup []) [some (.box [.own 2]), none, some (.arr 1 (((((R ++ [s.hi, s.lo, s.id, s.par].flatMap vintI) ++ [s.svc, s.op].flatMap textB) ++ [s.start, s.dur].flatMap vintI)).map bR))]], none)], .reg 4 [(3, [.call [0, 607001] [] (.tup []) [some (.box [.own 2]), none, some (.arr 1 ((((((R ++ [s.hi, s.lo, s.id, s.par].flatMap vintI) ++ [s.svc, s.op].flatMap textB) ++ [s.start, s.dur].flatMap vintI) ++ flagB s.err)).map bR))]], none)], .reg 5 [(3, [.be (I (s.attrs.length : Int))], none), (5, [.call [0, 804001] [1005000] (.tup []) [some (.box [.own 2]), none, some (.arr 1 (((((((R ++ [s.hi, s.lo, s.id, s.par].flatMap vintI) ++ [s.svc, s.op].flatMap textB) ++ [s.start, s.dur].flatMap vintI) ++ flagB s.err) ++ vintI (s.attrs.length : Int))).map bR))]], none)], .reg 6 [(2, [.be (I (s.attrs.length : Int))], none)], .cut ⟨[0, 44, 45, 46], [(0, 0), (1006001, 900)], []⟩ (.exit 0) (puS Q s s.attrs.length)] [900] [⟨cWide R [s.hi, s.lo, s.id, s.par] (by intro x hx; rcases List.mem_cons.1 hx with rfl | hx; exact h.1; rcases List.mem_cons.1 hx with rfl | hx; exact h.2.1; rcases List.mem_cons.1 hx with rfl | hx; exact h.2.2.1; rcases List.mem_cons.1 hx with rfl | hx; exact h.2.2.2; cases hx) (by simp) (by simp; omega)⟩, ⟨(by exact cText _ [s.svc, s.op] (by intro y hy; rcases List.mem_cons.1 hy with rfl | hy; omega; rcases List.mem_cons.1 hy with rfl | hy; omega; cases hy) (by simp) (by have q1 := vintI_len s.hi; have q2 := vintI_len s.lo; have q3 := vintI_len s.id; have q4 := vintI_len s.par; have q5 := textB_len s.svc; have q6 := textB_len s.op; have q7 := vintI_len s.start; have q8 := vintI_len s.dur; have q9 := flagB_len s.err; simp only [List.flatMap_cons, List.flatMap_nil, List.append_nil, List.length_append, List.length_cons, List.length_nil]; omega) : Contract Try.prog 93 [.ptr 0 0 0 0, .sl 1 [[Sg (Sp.svc s)], [Sg (Sp.op s)]]] [.box [.own 1], .arr 1 (List.map bR (R ++ List.flatMap vintI [Sp.hi s, Sp.lo s, Sp.id s, Sp.par s]))] (.tup []) [some (.box [.own 2]), none, some (.arr 1 (List.map bR (R ++ List.flatMap vintI [Sp.hi s, Sp.lo s, Sp.id s, Sp.par s] ++ List.flatMap textB [Sp.svc s, Sp.op s])))])⟩, ⟨(by exact cNum _ [s.start, s.dur] (by intro x hx; unfold isU; rcases List.mem_cons.1 hx with rfl | hx; omega; rcases List.mem_cons.1 hx with rfl | hx; omega; cases hx) (by simp) (by have q1 := vintI_len s.hi; have q2 := vintI_len s.lo; have q3 := vintI_len s.id; have q4 := vintI_len s.par; have q5 := textB_len s.svc; have q6 := textB_len s.op; have q7 := vintI_len s.start; have q8 := vintI_len s.dur; have q9 := flagB_len s.err; simp only [List.flatMap_cons, List.flatMap_nil, List.append_nil, List.length_append, List.length_cons, List.length_nil]; omega) : Contract Try.prog 46 [.ptr 0 0 0 0, .sl 1 [[I (Sp.start s)], [I (Sp.dur s)]]] [.box [.own 1], .arr 1 (List.map bR (R ++ List.flatMap vintI [Sp.hi s, Sp.lo s, Sp.id s, Sp.par s] ++ List.flatMap textB [Sp.svc s, Sp.op s]))] (.tup []) [some (.box [.own 2]), none, some (.arr 1 (List.map bR (R ++ List.flatMap vintI [Sp.hi s, Sp.lo s, Sp.id s, Sp.par s] ++ List.flatMap textB [Sp.svc s, Sp.op s] ++ List.flatMap vintI [Sp.start s, Sp.dur s])))])⟩, ⟨(by exact cFlag _ s.err (by have q1 := vintI_len s.hi; have q2 := vintI_len s.lo; have q3 := vintI_len s.id; have q4 := vintI_len s.par; have q5 := textB_len s.svc; have q6 := textB_len s.op; have q7 := vintI_len s.start; have q8 := vintI_len s.dur; have q9 := flagB_len s.err; simp only [List.flatMap_cons, List.flatMap_nil, List.append_nil, List.length_append]; omega) : Contract Try.prog 74 [.ptr 0 0 0 0, Bo (Sp.err s)] [.box [.own 1], .arr 1 (List.map bR (R ++ List.flatMap vintI [Sp.hi s, Sp.lo s, Sp.id s, Sp.par s] ++ List.flatMap textB [Sp.svc s, Sp.op s] ++ List.flatMap vintI [Sp.start s, Sp.dur s]))] (.tup []) [some (.box [.own 2]), none, some (.arr 1 (List.map bR (R ++ List.flatMap vintI [Sp.hi s, Sp.lo s, Sp.id s, Sp.par s] ++ List.flatMap textB [Sp.svc s, Sp.op s] ++ List.flatMap vintI [Sp.start s, Sp.dur s] ++ flagB (Sp.err s))))])⟩, ⟨lenm At.row (Sp.attrs s)⟩, ⟨(by exact cNum1 _ (s.attrs.length : Int) (isU_nat (by omega)) (by have q1 := vintI_len s.hi; have q2 := vintI_len s.lo; have q3 := vintI_len s.id; have q4 := vintI_len s.par; have q5 := textB_len s.svc; have q6 := textB_len s.op; have q7 := vintI_len s.start; have q8 := vintI_len s.dur; have q9 := flagB_len s.err; simp only [List.flatMap_cons, List.flatMap_nil, List.append_nil, List.length_append]; omega) : Contract Try.prog 46 [.ptr 0 0 0 0, .sl 1 [[I (Int.ofNat (List.length (Sp.attrs s)))]]] [.box [.own 1], .arr 1 (List.map bR (R ++ List.flatMap vintI [Sp.hi s, Sp.lo s, Sp.id s, Sp.par s] ++ List.flatMap textB [Sp.svc s, Sp.op s] ++ List.flatMap vintI [Sp.start s, Sp.dur s] ++ flagB (Sp.err s)))] (.tup []) [some (.box [.own 2]), none, some (.arr 1 (List.map bR (R ++ List.flatMap vintI [Sp.hi s, Sp.lo s, Sp.id s, Sp.par s] ++ List.flatMap textB [Sp.svc s, Sp.op s] ++ List.flatMap vintI [Sp.start s, Sp.dur s] ++ flagB (Sp.err s) ++ vintI (Int.ofNat (List.length (Sp.attrs s))))))])⟩, ⟨lenm At.row (Sp.attrs s)⟩, ⟨hl⟩]

theorem cPut (R : List UInt8) (s : Sp) (h : okS s) (hR : R.length ≤ 60000000) : Contract Try.prog 75 [.ptr 0 0 0 0, s.v] [.box [.own 1], .arr 1 (R.map bR)] (.tup []) [some (.box [.own 2]), none, some (.arr 1 ((R ++ spanB s).map bR))] := by
  obtain ⟨h1, h2, h3, h4, h5, h6⟩ := right_of h.2
  have hh := spanH_len h.2
  have e : (((((R ++ [s.hi, s.lo, s.id, s.par].flatMap vintI) ++ [s.svc, s.op].flatMap textB) ++ [s.start, s.dur].flatMap vintI) ++ flagB s.err) ++ vintI (s.attrs.length : Int)) = R ++ spanH s := by unfold spanH; simp
  refine put0 R _ s h.1 h1 h2 h3 h4 h5 hR ?_
  rw [e]
  have := puAll s h5 h6 s.attrs.length 0 (R ++ spanH s) (by omega) (by rw [List.length_append]; omega)
  rw [List.drop_zero, List.append_assoc] at this
  exact this

theorem peGo (R : List UInt8) (e : Ep) (x : Sp) (i : Nat) (hx : e.spans[i]? = some x) (hi : i < e.spans.length) (hu : okS x) (hs : e.spans.length ≤ 100000) (hR : R.length ≤ 60000000)  : CodeC Try.prog 2 34 peB (peS R e i) .normal (peS (R ++ spanB x) e (i + 1)) :=
 runS hmix [.reg 5 [(0, [], some true)], .reg 6 [(1, [.row (Sp.row x)], none)], .reg 7 [(2, [.call [0, 900] [] (.tup []) [some (.box [.own 2]), none, some (.arr 1 ((R ++ spanB x).map bR))]], none)], .reg 8 [(0, [.be (I ((i + 1 : Nat) : Int))], none)]] ⟨[0, 24, 25, 26], [(0, 0), (1403001, 900)], []⟩ [⟨dlt hi⟩, ⟨nn i⟩, ⟨ltm Sp.row hi⟩, ⟨gtm Sp.row hx⟩, ⟨cPut R x hu hR⟩, ⟨w64 (i + 1) (by omega)⟩]

theorem peE (R : List UInt8) (e : Ep) (i : Nat) (h : e.spans.length ≤ i)  : CodeC Try.prog 2 34 peB (peS R e i) (.exit 0) (peS R e i) :=
 runS hmix [.reg 5 [(0, [], some false)]] ⟨[0, 24, 25, 26], [(0, 0), (900, 900)], []⟩ [⟨dge h⟩]

theorem peAll (e : Ep) (hs : e.spans.length ≤ 100000) (hu : ∀ s ∈ e.spans, okS s) : ∀ (m i : Nat) (R : List UInt8), i + m = e.spans.length → R.length + 340 * m ≤ 60000000 → LoopC Try.prog 2 34 peB (peS R e i) (.exit 0) (peS (R ++ (e.spans.drop i).flatMap spanB) e e.spans.length)
  | 0, i, R, h, _ => by
    have : i = e.spans.length := by omega
    subst this
    rw [List.drop_length]
    simp only [List.flatMap_nil, List.append_nil]
    exact LoopC.last (peE R e _ (Nat.le_refl _)) (by simp)
  | m + 1, i, R, h, hR => by
    have hi : i < e.spans.length := by omega
    have hq := hu _ (List.getElem_mem hi)
    have hlen := spanB_len hq.2
    have ih := peAll e hs hu m (i + 1) (R ++ spanB e.spans[i]) (by omega) (by simp; omega)
    rw [List.drop_eq_getElem_cons hi, List.flatMap_cons, ← List.append_assoc]
    exact LoopC.next (peGo R e e.spans[i] i (List.getElem?_eq_getElem hi) hi hq hs (by omega)) ih
theorem pute0 (R Q : List UInt8) (e : Ep) (h3 : isU e.first) (h4 : isU e.last) (h5 : e.spans.length ≤ 100000) (hR : R.length ≤ 60000000) (hl : LoopC Try.prog 2 34 peB (peS (((R ++ [e.first, e.last].flatMap vintI) ++ flagB e.sure) ++ vintI (e.spans.length : Int)) e 0) (.exit 0) (peS Q e e.spans.length)) : Contract Try.prog 47 [.ptr 0 0 0 0, e.v] [.box [.own 1], .arr 1 (R.map bR)] (.tup []) [some (.box [.own 2]), none, some (.arr 1 ((Q).map bR))] :=
 vcS hmix [.reg 1 [(6, [.call [0, 1] [206000] (.tup []) [some (.box [.own 2]), none, some (.arr 1 (((R ++ [e.first, e.last].flatMap vintI)).map bR))]], none)], .reg 2 [(3, [.call [0, 207001] [] (.tup []) [some (.box [.own 2]), none, some (.arr 1 ((((R ++ [e.first, e.last].flatMap vintI) ++ flagB e.sure)).map bR))]], none)], .reg 3 [(3, [.be (I (e.spans.length : Int))], none), (5, [.call [0, 404001] [605000] (.tup []) [some (.box [.own 2]), none, some (.arr 1 (((((R ++ [e.first, e.last].flatMap vintI) ++ flagB e.sure) ++ vintI (e.spans.length : Int))).map bR))]], none)], .reg 4 [(2, [.be (I (e.spans.length : Int))], none)], .cut ⟨[0, 24, 25, 26], [(0, 0), (606001, 900)], []⟩ (.exit 0) (peS Q e e.spans.length)] [900] [⟨cNum R [e.first, e.last] (by intro x hx; rcases List.mem_cons.1 hx with rfl | hx; exact h3; rcases List.mem_cons.1 hx with rfl | hx; exact h4; cases hx) (by simp) (by simp; omega)⟩, ⟨(by exact cFlag _ e.sure (by have q7 := vintI_len e.first; have q8 := vintI_len e.last; have q9 := flagB_len e.sure; simp only [List.flatMap_cons, List.flatMap_nil, List.append_nil, List.length_append]; omega) : Contract Try.prog 74 [.ptr 0 0 0 0, Bo (Ep.sure e)] [.box [.own 1], .arr 1 (List.map bR (R ++ List.flatMap vintI [Ep.first e, Ep.last e]))] (.tup []) [some (.box [.own 2]), none, some (.arr 1 (List.map bR (R ++ List.flatMap vintI [Ep.first e, Ep.last e] ++ flagB (Ep.sure e))))])⟩, ⟨lenm Sp.row (Ep.spans e)⟩, ⟨(by exact cNum1 _ (e.spans.length : Int) (isU_nat (by omega)) (by have q7 := vintI_len e.first; have q8 := vintI_len e.last; have q9 := flagB_len e.sure; simp only [List.flatMap_cons, List.flatMap_nil, List.append_nil, List.length_append]; omega) : Contract Try.prog 46 [.ptr 0 0 0 0, .sl 1 [[I (Int.ofNat (List.length (Ep.spans e)))]]] [.box [.own 1], .arr 1 (List.map bR (R ++ List.flatMap vintI [Ep.first e, Ep.last e] ++ flagB (Ep.sure e)))] (.tup []) [some (.box [.own 2]), none, some (.arr 1 (List.map bR (R ++ List.flatMap vintI [Ep.first e, Ep.last e] ++ flagB (Ep.sure e) ++ vintI (Int.ofNat (List.length (Ep.spans e))))))])⟩, ⟨lenm Sp.row (Ep.spans e)⟩, ⟨hl⟩]

theorem epH_len (e : Ep) : (epH e).length ≤ 40 := by
  have := vintI_len e.first
  have := vintI_len e.last
  have := flagB_len e.sure
  have := vintI_len (e.spans.length : Int)
  simp only [epH, List.flatMap_cons, List.flatMap_nil, List.append_nil, List.length_append]
  omega
theorem epB_len {e : Ep} (h : ∀ s ∈ e.spans, okS s) : (epB e).length ≤ 40 + 340 * e.spans.length := by
  have h1 := epH_len e
  have h2 := flat_len2 (f := spanB) (B := 340) fun s hs => spanB_len (h s hs).2
  unfold epB
  rw [List.length_append]
  omega
theorem cPutE (R : List UInt8) (e : Ep) (h3 : isU e.first) (h4 : isU e.last) (hs : e.spans.length ≤ 100000) (hu : ∀ s ∈ e.spans, okS s) (hR : R.length ≤ 20000000) : Contract Try.prog 47 [.ptr 0 0 0 0, e.v] [.box [.own 1], .arr 1 (R.map bR)] (.tup []) [some (.box [.own 2]), none, some (.arr 1 ((R ++ epB e).map bR))] := by
  have hh := epH_len e
  have q : (((R ++ [e.first, e.last].flatMap vintI) ++ flagB e.sure) ++ vintI (e.spans.length : Int)) = R ++ epH e := by unfold epH; simp
  refine pute0 R _ e h3 h4 hs (by omega) ?_
  rw [q]
  have := peAll e hs hu e.spans.length 0 (R ++ epH e) (by omega) (by rw [List.length_append]; omega)
  rw [List.drop_zero, List.append_assoc] at this
  exact this

end Go.Proofs.Ytdomjccibhgbjaa

/- copies of episodes. -/
namespace Go.Proofs.Ytdomjccibhgbjaa
open E
set_option maxRecDepth 100000
set_option linter.unusedVariables false
set_option linter.unusedSimpArgs false

/-- Small enough to be copied. -/
def smS (s : Sp) : Prop := s.attrs.length ≤ 1000000
def smE (e : Ep) : Prop := e.spans.length ≤ 1000000 ∧ ∀ s ∈ e.spans, smS s
def scS (l : List Sp) (i : Nat) : SL := ⟨[(0, .own 0), (7, I (l.length : Int)), (8, I (i : Int))], [(0, .arr 10 (l.map Sp.row))], [0]⟩
def ecS (l R : List Ep) (i : Nat) : SL := ⟨[(3, .own 0), (6, .sl 6 (l.map Ep.row)), (7, I (l.length : Int)), (8, I (i : Int))], [(0, .arr 6 (R.map Ep.row))], [0]⟩
noncomputable def scB : Code := codeAt Try.prog 78 [true, true, false, true, false, false]

noncomputable def ecB : Code := codeAt Try.prog 41 [true, true, false, true, false, false]

theorem set_same {α β : Type} {l : List α} {f : α → β} {i : Nat} {x : α} (h : l[i]? = some x) : (l.map f).set i (f x) = l.map f := by
  obtain ⟨h1, h2⟩ := List.getElem?_eq_some_iff.1 h
  rw [← List.map_set, ← h2, List.set_getElem_self]
theorem clfNil (c : Nat)  : Contract Try.prog 95 [.val (.slice none 0 c)] [] (.sl 2 []) [] :=
 vcS hmix [.reg 2 [(0, [.idx 2, .idx 1], none)]] [] []

theorem clfVal (A : Addr) (c : Nat)  : Contract Try.prog 95 [.val (.slice (some A) 0 c)] [] (.sl 2 []) [] :=
 vcS hmix [.reg 3 [(3, [.idx 1], none)]] [] [⟨(by omega : 0 ≤ 140737488355328)⟩]

theorem clfCons (rows : List (List V)) (h : rows ≠ []) (hb : rows.length ≤ 1000000) : Contract Try.prog 95 [.sl 2 rows] [] (.sl 2 rows) [] :=
 vcS hmix [.reg 3 [(3, [.idx 1], none)]] [] [⟨(by omega : rows ≠ [])⟩, ⟨(by omega : (0 + List.length rows) * 32 ≤ 140737488355328)⟩]

theorem clf (rows : List (List V)) (hb : rows.length ≤ 1000000) : Contract Try.prog 95 [.sl 2 rows] [] (.sl 2 rows) [] := by
  by_cases h : rows = []
  · subst h
    exact Contract.slNil clfNil clfVal
  · exact clfCons rows h hb

theorem sc (l : List Sp) (x : Sp) (i : Nat) (hx : l[i]? = some x) (hs : l.length ≤ 1000000) (hm : smS x)  : CodeC Try.prog 0 23 scB (scS l i) .normal (scS l (i + 1)) :=
 runS hmix [.reg 3 [(0, [], some true)], .reg 5 [(6, [.row (Sp.row x)], none), (7, [.call [] [] (.sl 2 (x.attrs.map At.row)) []], none), (10, [.row (Sp.row x), .beO (l.map Sp.row)], none)], .reg 6 [(0, [.be (I ((i + 1 : Nat) : Int))], none)]] ⟨[0, 7, 8], [(0, 0)], []⟩ [⟨(by have q := (List.getElem?_eq_some_iff.1 hx).1; simp; omega : decide (Int.ofNat i < Int.ofNat (List.length l)) = true)⟩, ⟨nn i⟩, ⟨(by have q := (List.getElem?_eq_some_iff.1 hx).1; simp; omega : Int.ofNat i < Int.ofNat (List.length (List.map Sp.row l)))⟩, ⟨gtm Sp.row hx⟩, ⟨(by exact clf _ (by rw [List.length_map]; exact hm) : Contract Try.prog 95 [.sl 2 (List.map At.row (Sp.attrs x))] [] (.sl 2 (List.map At.row (Sp.attrs x))) [])⟩, ⟨nn i⟩, ⟨(by have q := (List.getElem?_eq_some_iff.1 hx).1; simp; omega : Int.ofNat i < Int.ofNat (List.length (List.map Sp.row l)))⟩, ⟨gtm Sp.row hx⟩, ⟨(by exact set_same hx : List.set (List.map Sp.row l) i [(U (Sp.hi x)), (U (Sp.lo x)), (U (Sp.id x)), (U (Sp.par x)), Sg (Sp.svc x), Sg (Sp.op x), I (Sp.start x), I (Sp.dur x), Bo (Sp.err x), .sl 2 (List.map At.row (Sp.attrs x))] = List.map Sp.row l)⟩, ⟨(by have q := (List.getElem?_eq_some_iff.1 hx).1; exact i64_small (by simp; omega) : IntKind.wrap IntKind.i64 (Int.ofNat (i + 1)) = Int.ofNat (i + 1))⟩]

theorem scE (l : List Sp) (i : Nat) (h : l.length ≤ i)  : CodeC Try.prog 0 23 scB (scS l i) (.exit 0) (scS l i) :=
 runS hmix [.reg 3 [(0, [], some false)]] ⟨[0, 7, 8], [(0, 0)], []⟩ [⟨dge h⟩]

theorem clnSNil (c : Nat) : Contract Try.prog 94 [.val (.slice none 0 c)] [] (.own 0) [some (.arr 10 [])] :=
 vcS hmix [.reg 2 [(0, [.idx 10], none)]] [401000] []

theorem clnSVal (A : Addr) (c : Nat) : Contract Try.prog 94 [.val (.slice (some A) 0 c)] [] (.own 0) [some (.arr 10 [])] :=
 vcS hmix [] [603000] [⟨(by omega : 0 ≤ 140737488355328)⟩]

theorem clnSCons (rows : List (List V)) (h : rows ≠ []) (hb : rows.length * 112 ≤ 140737488355328) : Contract Try.prog 94 [.sl 10 rows] [] (.own 0) [some (.arr 10 rows)] :=
 vcS hmix [] [603000] [⟨(by omega : rows ≠ [])⟩, ⟨(by omega : (0 + List.length rows) * 112 ≤ 140737488355328)⟩]

theorem clnS (rows : List (List V)) (hb : rows.length * 112 ≤ 140737488355328) : Contract Try.prog 94 [.sl 10 rows] [] (.own 0) [some (.arr 10 rows)] := by
  by_cases h : rows = []
  · subst h
    exact Contract.slNil clnSNil clnSVal
  · exact clnSCons rows h hb

end Go.Proofs.Ytdomjccibhgbjaa

/- sorting gleaning/api.Episode: insertion, swapping, rotating. -/
namespace Go.Proofs.Ytdomjccibhgbjaa
open E
set_option maxRecDepth 100000
set_option linter.unusedVariables false
set_option linter.unusedSimpArgs false

def soLt  (x y : Ep) : Bool := decide ((cmpE) x y < 0)
def soN (l : List Ep)  (a b i : Nat) : SL := ⟨[(0, .own 0), (1, I (a : Int)), (2, I (b : Int)), (3, .clo (.func 43) [] []), (8, I (i : Int))], [(0, .arr 6 (l.map Ep.row))], [0, 0]⟩
def soM (l : List Ep)  (a b i j : Nat) : SL := ⟨[(0, .own 0), (1, I (a : Int)), (2, I (b : Int)), (3, .clo (.func 43) [] []), (8, I (i : Int)), (9, I (j : Int))], [(0, .arr 6 (l.map Ep.row))], [0, 0]⟩
def soW (l : List Ep)  (a b n i : Nat) : SL := ⟨[(0, .own 0), (1, I (a : Int)), (2, I (b : Int)), (3, I (n : Int)), (10, I (i : Int))], [(0, .arr 6 (l.map Ep.row))], [0, 0]⟩
def soR (l : List Ep)  (m i j : Nat) : SL := ⟨[(0, .own 0), (2, I (m : Int)), (4, .clo (.func 43) [] []), (10, I (i : Int)), (11, I (j : Int))], [(0, .arr 6 (l.map Ep.row))], [0, 0]⟩
noncomputable def soNB : Code := codeAt Try.prog 90 [true, false, false]

noncomputable def soMB : Code := codeAt Try.prog 90 [true, false, false, true, false, false, true, false, false]

noncomputable def soWB : Code := codeAt Try.prog 106 [true, false, false]

noncomputable def soRB : Code := codeAt Try.prog 102 [true, true, false, false, false]

theorem soMgo (A B : List Ep) (x y : Ep)  (a b i j : Nat) (hj : j = A.length + 1) (hl : A.length + B.length ≤ 1000000) (ha : a < j) (hb : soLt  x y = true)  : CodeC Try.prog 1 53 soMB (soM (A ++ y :: x :: B)  a b i j) .normal (soM (A ++ x :: y :: B)  a b i A.length) :=
 runS hmix [.reg 4 [(3, [], some true), (8, [.row (Ep.row x)], none), (11, [.be (I ((A.length : Nat) : Int))], none), (13, [.row (Ep.row y)], none), (14, [.call [] [] (I ((cmpE) x y)) []], none), (15, [], some true)], .reg 6 [(4, [.be (I ((A.length : Nat) : Int))], none), (7, [.be (I ((A.length : Nat) : Int))], none), (9, [.row (Ep.row y)], none), (13, [.row (Ep.row x)], none), (15, [.row (Ep.row x), .beO ((A ++ y :: y :: B).map Ep.row)], none), (17, [.row (Ep.row y), .beO ((A ++ x :: y :: B).map Ep.row)], none)], .reg 5 [(1, [.be (I ((A.length : Nat) : Int))], none)]] ⟨[0, 1, 2, 3, 8, 9], [(0, 0)], []⟩ [⟨(by simp; omega : decide (Int.ofNat j > Int.ofNat a) = true)⟩, ⟨nn j⟩, ⟨(by simp; omega : Int.ofNat j < Int.ofNat (List.length (List.map Ep.row (A ++ y :: x :: B))))⟩, ⟨(by exact at2 (by omega) : (List.map Ep.row (A ++ y :: x :: B))[j]? = some (Ep.row x))⟩, ⟨(by rw [i64_small (by simp; omega)]; simp; omega : IntKind.wrap IntKind.i64 (Int.ofNat j + (-1)) = Int.ofNat (List.length A))⟩, ⟨nn (List.length A)⟩, ⟨(by simp; omega : Int.ofNat (List.length A) < Int.ofNat (List.length (List.map Ep.row (A ++ y :: x :: B))))⟩, ⟨(by exact at1 (by omega) : (List.map Ep.row (A ++ y :: x :: B))[List.length A]? = some (Ep.row y))⟩, ⟨cCompare x y⟩, ⟨hb⟩, ⟨(by rw [i64_small (by simp; omega)]; simp; omega : IntKind.wrap IntKind.i64 (Int.ofNat j + (-1)) = Int.ofNat (List.length A))⟩, ⟨(by rw [i64_small (by simp; omega)]; simp; omega : IntKind.wrap IntKind.i64 (Int.ofNat j + (-1)) = Int.ofNat (List.length A))⟩, ⟨nn (List.length A)⟩, ⟨(by simp; omega : Int.ofNat (List.length A) < Int.ofNat (List.length (List.map Ep.row (A ++ y :: x :: B))))⟩, ⟨(by exact at1 (by omega) : (List.map Ep.row (A ++ y :: x :: B))[List.length A]? = some (Ep.row y))⟩, ⟨nn j⟩, ⟨(by simp; omega : Int.ofNat j < Int.ofNat (List.length (List.map Ep.row (A ++ y :: x :: B))))⟩, ⟨(by exact at2 (by omega) : (List.map Ep.row (A ++ y :: x :: B))[j]? = some (Ep.row x))⟩, ⟨nn j⟩, ⟨(by simp; omega : Int.ofNat j < Int.ofNat (List.length (List.map Ep.row (A ++ y :: x :: B))))⟩, ⟨(by exact at2 (by omega) : (List.map Ep.row (A ++ y :: x :: B))[j]? = some (Ep.row x))⟩, ⟨(by exact set2 (by omega) : List.set (List.map Ep.row (A ++ y :: x :: B)) j [(U (Ep.hi y)), (U (Ep.lo y)), I (Ep.first y), I (Ep.last y), Bo (Ep.sure y), .sl 10 (List.map Sp.row (Ep.spans y))] = List.map Ep.row (A ++ y :: y :: B))⟩, ⟨nn (List.length A)⟩, ⟨(by simp; omega : Int.ofNat (List.length A) < Int.ofNat (List.length (List.map Ep.row (A ++ y :: y :: B))))⟩, ⟨(by exact at1 (by omega) : (List.map Ep.row (A ++ y :: y :: B))[List.length A]? = some (Ep.row y))⟩, ⟨(by exact set1 (by omega) : List.set (List.map Ep.row (A ++ y :: y :: B)) (List.length A) [(U (Ep.hi x)), (U (Ep.lo x)), I (Ep.first x), I (Ep.last x), Bo (Ep.sure x), .sl 10 (List.map Sp.row (Ep.spans x))] = List.map Ep.row (A ++ x :: y :: B))⟩, ⟨(by rw [i64_small (by simp; omega)]; simp; omega : IntKind.wrap IntKind.i64 (Int.ofNat j + (-1)) = Int.ofNat (List.length A))⟩]

theorem soMst (A B : List Ep) (x y : Ep)  (a b i j : Nat) (hj : j = A.length + 1) (hl : A.length + B.length ≤ 1000000) (ha : a < j) (hb : soLt  x y = false)  : CodeC Try.prog 1 53 soMB (soM (A ++ y :: x :: B)  a b i j) (.exit 2) (soM (A ++ y :: x :: B)  a b i j) :=
 runS hmix [.reg 4 [(3, [], some true), (8, [.row (Ep.row x)], none), (11, [.be (I ((A.length : Nat) : Int))], none), (13, [.row (Ep.row y)], none), (14, [.call [] [] (I ((cmpE) x y)) []], none), (15, [], some false)]] ⟨[0, 1, 2, 3, 8, 9], [(0, 0)], []⟩ [⟨(by simp; omega : decide (Int.ofNat j > Int.ofNat a) = true)⟩, ⟨nn j⟩, ⟨(by simp; omega : Int.ofNat j < Int.ofNat (List.length (List.map Ep.row (A ++ y :: x :: B))))⟩, ⟨(by exact at2 (by omega) : (List.map Ep.row (A ++ y :: x :: B))[j]? = some (Ep.row x))⟩, ⟨(by rw [i64_small (by simp; omega)]; simp; omega : IntKind.wrap IntKind.i64 (Int.ofNat j + (-1)) = Int.ofNat (List.length A))⟩, ⟨nn (List.length A)⟩, ⟨(by simp; omega : Int.ofNat (List.length A) < Int.ofNat (List.length (List.map Ep.row (A ++ y :: x :: B))))⟩, ⟨(by exact at1 (by omega) : (List.map Ep.row (A ++ y :: x :: B))[List.length A]? = some (Ep.row y))⟩, ⟨cCompare x y⟩, ⟨hb⟩]

theorem soMz (l : List Ep)  (a b i j : Nat) (ha : j ≤ a)  : CodeC Try.prog 1 53 soMB (soM (l)  a b i j) (.exit 2) (soM (l)  a b i j) :=
 runS hmix [.reg 4 [(3, [], some false)]] ⟨[0, 1, 2, 3, 8, 9], [(0, 0)], []⟩ [⟨(by simp; omega : decide (Int.ofNat j > Int.ofNat a) = false)⟩]

theorem soMin  (ho : Swo (soLt )) (P : List Ep) (b i : Nat) (x : Ep) (S : List Ep) : Srt (soLt ) S → ∀ R : List Ep, P.length + S.length + R.length ≤ 1000000 →
    ∃ j', LoopC Try.prog 1 53 soMB (soM (P ++ S ++ x :: R)  P.length b i (P.length + S.length)) (.exit 2) (soM (P ++ mrg (soLt ) S [x] ++ R)  P.length b i j') := by
  refine snoc_ind (P := fun S => Srt (soLt ) S → ∀ R : List Ep, P.length + S.length + R.length ≤ 1000000 → ∃ j', LoopC Try.prog 1 53 soMB (soM (P ++ S ++ x :: R)  P.length b i (P.length + S.length)) (.exit 2) (soM (P ++ mrg (soLt ) S [x] ++ R)  P.length b i j')) ?_ ?_ S
  · intro _ R _
    refine ⟨P.length, ?_⟩
    rw [mrg_nil_l, List.append_nil, List.length_nil, Nat.add_zero]
    simp only [List.append_assoc, List.cons_append, List.nil_append]
    exact LoopC.last (soMz _  _ b i _ (Nat.le_refl _)) (by simp)
  · intro S y ih hs R hR
    have hs' := List.pairwise_append.1 hs
    simp only [List.length_append, List.length_cons, List.length_nil] at hR ⊢
    cases h : soLt  x y with
    | true =>
      obtain ⟨j', hj⟩ := ih hs'.1 (y :: R) (by simp; omega)
      have e : mrg (soLt ) (S ++ [y]) [x] = mrg (soLt ) S [x] ++ [y] := by
        have := mrg_append ho S [x] [y] [] (by simp) (fun z hz w hw => by simp at hz hw; subst hz hw; exact h)
        rwa [mrg_nil_r, List.append_nil] at this
      refine ⟨j', ?_⟩
      rw [e]
      have hr := soMgo (P ++ S) R x y  P.length b i (P.length + (S.length + 1)) (by simp; omega) (by simp; omega) (by omega) h
      rw [show (P ++ S).length = P.length + S.length by simp] at hr
      simp only [List.append_assoc, List.cons_append, List.nil_append] at hr hj ⊢
      exact LoopC.next hr hj
    | false =>
      have e : mrg (soLt ) (S ++ [y]) [x] = S ++ [y, x] := by
        have := mrg_one ho (S ++ [y]) x [] (fun z hz => by
          rcases List.mem_append.1 hz with hz | hz
          · exact ho.trans (hs'.2.2 z hz y (by simp)) h
          · simp at hz; subst hz; exact h) (by simp)
        simpa using this
      refine ⟨P.length + (S.length + 1), ?_⟩
      rw [e]
      have hr := soMst (P ++ S) R x y  P.length b i (P.length + (S.length + 1)) (by simp; omega) (by simp; omega) (by omega) h
      simp only [List.append_assoc, List.cons_append, List.nil_append] at hr ⊢
      exact LoopC.last hr (by simp)

theorem soNgo (l l' : List Ep)  (a b i j : Nat) (hi : i < b) (hb : b ≤ 1000000) (hl : LoopC Try.prog 1 53 soMB (soM (l)  a b i i) (.exit 2) (soM (l')  a b i j))  : CodeC Try.prog 1 53 soNB (soN (l)  a b i) .normal (soN (l')  a b (i + 1)) :=
 runS hmix [.reg 1 [(2, [], some true)], .cut ⟨[0, 1, 2, 3, 8, 9], [(0, 0)], []⟩ (.exit 2) (soM (l')  a b i j), .reg 2 [(1, [.be (I ((i + 1 : Nat) : Int))], none)]] ⟨[0, 1, 2, 3, 8], [(0, 0)], []⟩ [⟨(by simp; omega : decide (Int.ofNat i < Int.ofNat b) = true)⟩, ⟨hl⟩, ⟨w64 (i + 1) (by omega)⟩]

theorem soNz (l : List Ep)  (a b i : Nat) (hi : b ≤ i)  : CodeC Try.prog 1 53 soNB (soN (l)  a b i) (.exit 0) (soN (l)  a b i) :=
 runS hmix [.reg 1 [(2, [], some false)]] ⟨[0, 1, 2, 3, 8], [(0, 0)], []⟩ [⟨(by simp; omega : decide (Int.ofNat i < Int.ofNat b) = false)⟩]

theorem soI0 (l l' : List Ep)  (a b i : Nat) (ha : a ≤ 1000000) (hl : LoopC Try.prog 1 53 soNB (soN (l)  a b (a + 1)) (.exit 0) (soN (l')  a b i)) : Contract Try.prog 90 [.own 0, I (a : Int), I (b : Int), .clo (.func 43) [] []] [.arr 6 (l.map Ep.row)] (.tup []) [some (.arr 6 ((l').map Ep.row))] :=
 vcS hmix [.reg 0 [(1, [.be (I ((a + 1 : Nat) : Int))], none)], .cut ⟨[0, 1, 2, 3, 8], [(0, 0)], []⟩ (.exit 0) (soN (l')  a b i)] [] [⟨w64 (a + 1) (by omega)⟩, ⟨hl⟩]

theorem soNin  (ho : Swo (soLt )) (P : List Ep) (b : Nat) : ∀ (n : Nat) (S T R : List Ep), T.length = n → b = P.length + S.length + T.length → P.length + S.length + T.length + R.length ≤ 1000000 →
    LoopC Try.prog 1 53 soNB (soN (P ++ srt (soLt ) S ++ (T ++ R))  P.length b (P.length + S.length)) (.exit 0) (soN (P ++ srt (soLt ) (S ++ T) ++ R)  P.length b b)
  | 0, S, T, R, hn, hb, hs => by
    have : T = [] := List.eq_nil_of_length_eq_zero hn
    subst this
    simp only [List.length_nil, Nat.add_zero] at hb
    subst hb
    rw [List.append_nil, List.nil_append]
    exact LoopC.last (soNz _  _ _ _ (Nat.le_refl _)) (by simp)
  | n + 1, S, [], R, hn, hb, hs => by simp at hn
  | n + 1, S, x :: T, R, hn, hb, hs => by
    simp only [List.length_cons] at hn hb hs
    obtain ⟨j, hj⟩ := soMin  ho P b (P.length + S.length) x (srt (soLt ) S) (srt_srt ho S) (T ++ R) (by rw [srt_len]; simp; omega)
    rw [srt_len] at hj
    have hr := soNgo _ _  P.length b (P.length + S.length) j (by omega) (by omega) hj
    rw [← srt_snoc] at hr
    have ih := soNin  ho P b n (S ++ [x]) T R (by omega) (by simp; omega) (by simp; omega)
    rw [show P.length + (S ++ [x]).length = P.length + S.length + 1 by simp; omega] at ih
    simp only [List.append_assoc, List.cons_append, List.nil_append] at hr ih ⊢
    exact LoopC.next hr ih
/-- Insertion sorts a part. -/
theorem soIns  (ho : Swo (soLt )) (P S R : List Ep) (a b : Nat) (ha : a = P.length) (hb : b = P.length + S.length) (hs : P.length + S.length + R.length ≤ 1000000) :
    Contract Try.prog 90 [.own 0, I (a : Int), I (b : Int), .clo (.func 43) [] []] [.arr 6 ((P ++ S ++ R).map Ep.row)] (.tup []) [some (.arr 6 ((P ++ srt (soLt ) S ++ R).map Ep.row))] := by
  subst ha
  cases S with
  | nil =>
    refine soI0 _ _  _ _ (P.length + 1) (by omega) ?_
    exact LoopC.last (soNz _  _ _ _ (by simp at hb; omega)) (by simp)
  | cons x S =>
    refine soI0 _ _  _ _ b (by omega) ?_
    have h := soNin  ho P b S.length [x] S R rfl (by simp at hb ⊢; omega) (by simp at hs ⊢; omega)
    have e : srt (soLt ) [x] = [x] := mrg_nil_l _
    rw [e] at h
    simp only [List.append_assoc, List.cons_append, List.nil_append, List.length_cons, List.length_nil] at h ⊢
    exact h

theorem soWgo (A M' B : List Ep) (x y : Ep)  (a b n i : Nat) (hi : i < n) (ha : a + i = A.length) (hb : b + i = A.length + 1 + M'.length) (hs : A.length + M'.length + B.length ≤ 1000000)  : CodeC Try.prog 1 38 soWB (soW (A ++ x :: (M' ++ y :: B))  a b n i) .normal (soW (A ++ y :: (M' ++ x :: B))  a b n (i + 1)) :=
 runS hmix [.reg 1 [(2, [], some true)], .reg 3 [(3, [.be (I ((A.length : Nat) : Int))], none), (7, [.be (I ((A.length + 1 + M'.length : Nat) : Int))], none), (11, [.be (I ((A.length + 1 + M'.length : Nat) : Int))], none), (13, [.row (Ep.row y)], none), (17, [.be (I ((A.length : Nat) : Int))], none), (19, [.row (Ep.row x)], none), (21, [.row (Ep.row x), .beO ((A ++ y :: (M' ++ y :: B)).map Ep.row)], none), (23, [.row (Ep.row y), .beO ((A ++ y :: (M' ++ x :: B)).map Ep.row)], none)], .reg 2 [(1, [.be (I ((i + 1 : Nat) : Int))], none)]] ⟨[0, 1, 2, 3, 10], [(0, 0)], []⟩ [⟨(by simp; omega : decide (Int.ofNat i < Int.ofNat n) = true)⟩, ⟨(by rw [i64_small (by simp; omega)]; simp; omega : IntKind.wrap IntKind.i64 (Int.ofNat (a + i)) = Int.ofNat (List.length A))⟩, ⟨(by rw [i64_small (by simp; omega)]; simp; omega : IntKind.wrap IntKind.i64 (Int.ofNat (b + i)) = Int.ofNat (List.length A + 1 + List.length M'))⟩, ⟨(by rw [i64_small (by simp; omega)]; simp; omega : IntKind.wrap IntKind.i64 (Int.ofNat (b + i)) = Int.ofNat (List.length A + 1 + List.length M'))⟩, ⟨nn (List.length A + 1 + List.length M')⟩, ⟨(by simp; omega : Int.ofNat (List.length A + 1 + List.length M') < Int.ofNat (List.length (List.map Ep.row (A ++ x :: (M' ++ y :: B)))))⟩, ⟨(by exact at3 (by omega) : (List.map Ep.row (A ++ x :: (M' ++ y :: B)))[List.length A + 1 + List.length M']? = some (Ep.row y))⟩, ⟨(by rw [i64_small (by simp; omega)]; simp; omega : IntKind.wrap IntKind.i64 (Int.ofNat (a + i)) = Int.ofNat (List.length A))⟩, ⟨nn (List.length A)⟩, ⟨(by simp; omega : Int.ofNat (List.length A) < Int.ofNat (List.length (List.map Ep.row (A ++ x :: (M' ++ y :: B)))))⟩, ⟨(by exact at1 (by omega) : (List.map Ep.row (A ++ x :: (M' ++ y :: B)))[List.length A]? = some (Ep.row x))⟩, ⟨nn (List.length A)⟩, ⟨(by simp; omega : Int.ofNat (List.length A) < Int.ofNat (List.length (List.map Ep.row (A ++ x :: (M' ++ y :: B)))))⟩, ⟨(by exact at1 (by omega) : (List.map Ep.row (A ++ x :: (M' ++ y :: B)))[List.length A]? = some (Ep.row x))⟩, ⟨(by exact set1 (by omega) : List.set (List.map Ep.row (A ++ x :: (M' ++ y :: B))) (List.length A) [(U (Ep.hi y)), (U (Ep.lo y)), I (Ep.first y), I (Ep.last y), Bo (Ep.sure y), .sl 10 (List.map Sp.row (Ep.spans y))] = List.map Ep.row (A ++ y :: (M' ++ y :: B)))⟩, ⟨nn (List.length A + 1 + List.length M')⟩, ⟨(by simp; omega : Int.ofNat (List.length A + 1 + List.length M') < Int.ofNat (List.length (List.map Ep.row (A ++ y :: (M' ++ y :: B)))))⟩, ⟨(by exact at3 (by omega) : (List.map Ep.row (A ++ y :: (M' ++ y :: B)))[List.length A + 1 + List.length M']? = some (Ep.row y))⟩, ⟨(by exact set3 (by omega) : List.set (List.map Ep.row (A ++ y :: (M' ++ y :: B))) (List.length A + 1 + List.length M') [(U (Ep.hi x)), (U (Ep.lo x)), I (Ep.first x), I (Ep.last x), Bo (Ep.sure x), .sl 10 (List.map Sp.row (Ep.spans x))] = List.map Ep.row (A ++ y :: (M' ++ x :: B)))⟩, ⟨w64 (i + 1) (by omega)⟩]

theorem soWz (l : List Ep)  (a b n i : Nat) (hi : n ≤ i)  : CodeC Try.prog 1 38 soWB (soW (l)  a b n i) (.exit 0) (soW (l)  a b n i) :=
 runS hmix [.reg 1 [(2, [], some false)]] ⟨[0, 1, 2, 3, 10], [(0, 0)], []⟩ [⟨(by simp; omega : decide (Int.ofNat i < Int.ofNat n) = false)⟩]

theorem soW0 (l l' : List Ep)  (a b n i : Nat) (hl : LoopC Try.prog 1 38 soWB (soW (l)  a b n 0) (.exit 0) (soW (l')  a b n i)) : Contract Try.prog 106 [.own 0, I (a : Int), I (b : Int), I (n : Int), .clo (.func 43) [] []] [.arr 6 (l.map Ep.row)] (.tup []) [some (.arr 6 ((l').map Ep.row))] :=
 vcS hmix [.cut ⟨[0, 1, 2, 3, 10], [(0, 0)], []⟩ (.exit 0) (soW (l')  a b n i)] [] [⟨hl⟩]

theorem soWin  (P M' Q : List Ep) (a b n : Nat) : ∀ (U V U' V' : List Ep), U.length = V.length → U'.length = V'.length → U'.length + U.length = n → a = P.length → b = P.length + n + M'.length → P.length + M'.length + Q.length + 2 * n ≤ 1000000 →
    LoopC Try.prog 1 38 soWB (soW (P ++ V' ++ U ++ M' ++ U' ++ V ++ Q)  a b n U'.length) (.exit 0) (soW (P ++ (V' ++ V) ++ M' ++ (U' ++ U) ++ Q)  a b n n)
  | [], [], U', V', h1, h2, h3, ha, hb, hs => by
    simp only [List.length_nil, Nat.add_zero] at h3
    subst h3
    simp only [List.append_nil]
    exact LoopC.last (soWz _  _ _ _ _ (Nat.le_refl _)) (by simp)
  | [], _ :: _, _, _, h1, _, _, _, _, _ => by simp at h1
  | _ :: _, [], _, _, h1, _, _, _, _, _ => by simp at h1
  | x :: U, y :: V, U', V', h1, h2, h3, ha, hb, hs => by
    simp only [List.length_cons] at h1 h3
    have hr := soWgo (P ++ V') (U ++ M' ++ U') (V ++ Q) x y  a b n U'.length (by omega) (by simp; omega) (by simp; omega) (by simp; omega)
    have ih := soWin  P M' Q a b n U V (U' ++ [x]) (V' ++ [y]) (by omega) (by simp; omega) (by simp; omega) ha hb hs
    rw [show (U' ++ [x]).length = U'.length + 1 by simp] at ih
    simp only [List.append_assoc, List.cons_append, List.nil_append] at hr ih ⊢
    exact LoopC.next hr ih
theorem soSwap  (P U M' V Q : List Ep) (a b n : Nat) (h1 : U.length = n) (h2 : V.length = n) (ha : a = P.length) (hb : b = P.length + n + M'.length) (hs : P.length + M'.length + Q.length + 2 * n ≤ 1000000) :
    Contract Try.prog 106 [.own 0, I (a : Int), I (b : Int), I (n : Int), .clo (.func 43) [] []] [.arr 6 ((P ++ U ++ M' ++ V ++ Q).map Ep.row)] (.tup []) [some (.arr 6 ((P ++ V ++ M' ++ U ++ Q).map Ep.row))] := by
  refine soW0 _ _  _ _ _ n ?_
  have h := soWin  P M' Q a b n U V [] [] (by omega) rfl (by simpa using h1) ha hb hs
  simpa using h

theorem soRgt (l l' : List Ep)  (m i j : Nat) (hij : j < i) (hm : i ≤ m) (hs : m + j ≤ 1000000) (hc : Contract Try.prog 106 [.own 0, I ((m - i : Nat) : Int), I ((m : Nat) : Int), I ((j : Nat) : Int), .clo (.func 43) [] []] [.arr 6 (l.map Ep.row)] (.tup []) [some (.arr 6 ((l').map Ep.row))])  : CodeC Try.prog 1 58 soRB (soR (l)  m i j) .normal (soR (l')  m (i - j) j) :=
 runS hmix [.reg 2 [(2, [], some true)], .reg 3 [(2, [], some true)], .reg 4 [(3, [.be (I ((m - i : Nat) : Int))], none), (7, [.call [0] [] (.tup []) [some (.arr 6 ((l').map Ep.row))]], none)], .reg 5 [(2, [.be (I ((i - j : Nat) : Int))], none)]] ⟨[0, 2, 4, 10, 11], [(0, 0)], []⟩ [⟨(by simp; omega : (Int.ofNat i != Int.ofNat j) = true)⟩, ⟨(by simp; omega : decide (Int.ofNat i > Int.ofNat j) = true)⟩, ⟨(by rw [i64_small (by simp; omega)]; simp; omega : IntKind.wrap IntKind.i64 (Int.ofNat m + -Int.ofNat i) = Int.ofNat (m - i))⟩, ⟨(by omega : Contract Try.prog 106 [.own 0, I (Int.ofNat (m - i)), I (Int.ofNat m), I (Int.ofNat j), V.clo (Fn.func 43) [] []] [.arr 6 (List.map Ep.row l)] (.tup []) [some (.arr 6 (List.map Ep.row l'))])⟩, ⟨(by rw [i64_small (by simp; omega)]; simp; omega : IntKind.wrap IntKind.i64 (Int.ofNat i + -Int.ofNat j) = Int.ofNat (i - j))⟩]

theorem soRlt (l l' : List Ep)  (m i j : Nat) (hij : i < j) (hm : i ≤ m) (hs : m + j ≤ 1000000) (hc : Contract Try.prog 106 [.own 0, I ((m - i : Nat) : Int), I ((m + j - i : Nat) : Int), I ((i : Nat) : Int), .clo (.func 43) [] []] [.arr 6 (l.map Ep.row)] (.tup []) [some (.arr 6 ((l').map Ep.row))])  : CodeC Try.prog 1 58 soRB (soR (l)  m i j) .normal (soR (l')  m i (j - i)) :=
 runS hmix [.reg 2 [(2, [], some true)], .reg 3 [(2, [], some false)], .reg 6 [(3, [.be (I ((m - i : Nat) : Int))], none), (6, [.be (I ((m + j : Nat) : Int))], none), (8, [.be (I ((m + j - i : Nat) : Int))], none), (11, [.call [0] [] (.tup []) [some (.arr 6 ((l').map Ep.row))]], none)], .reg 7 [(2, [.be (I ((j - i : Nat) : Int))], none)]] ⟨[0, 2, 4, 10, 11], [(0, 0)], []⟩ [⟨(by simp; omega : (Int.ofNat i != Int.ofNat j) = true)⟩, ⟨(by simp; omega : decide (Int.ofNat i > Int.ofNat j) = false)⟩, ⟨(by rw [i64_small (by simp; omega)]; simp; omega : IntKind.wrap IntKind.i64 (Int.ofNat m + -Int.ofNat i) = Int.ofNat (m - i))⟩, ⟨w64 (m + j) (by omega)⟩, ⟨(by rw [i64_small (by simp; omega)]; simp; omega : IntKind.wrap IntKind.i64 (Int.ofNat (m + j) + -Int.ofNat i) = Int.ofNat (m + j - i))⟩, ⟨(by omega : Contract Try.prog 106 [.own 0, I (Int.ofNat (m - i)), I (Int.ofNat (m + j - i)), I (Int.ofNat i), V.clo (Fn.func 43) [] []] [.arr 6 (List.map Ep.row l)] (.tup []) [some (.arr 6 (List.map Ep.row l'))])⟩, ⟨(by rw [i64_small (by simp; omega)]; simp; omega : IntKind.wrap IntKind.i64 (Int.ofNat j + -Int.ofNat i) = Int.ofNat (j - i))⟩]

theorem soReq (l : List Ep)  (m i : Nat)   : CodeC Try.prog 1 58 soRB (soR (l)  m i i) (.exit 0) (soR (l)  m i i) :=
 runS hmix [.reg 2 [(2, [], some false)]] ⟨[0, 2, 4, 10, 11], [(0, 0)], []⟩ [⟨(by simp : (Int.ofNat i != Int.ofNat i) = false)⟩]

theorem soR0 (l l1 l' : List Ep)  (a m b i : Nat) (ham : a ≤ m) (hmb : m ≤ b) (hs : b ≤ 1000000) (hi : i ≤ m) (hl : LoopC Try.prog 1 58 soRB (soR (l)  m (m - a) (b - m)) (.exit 0) (soR (l1)  m i i)) (hc : Contract Try.prog 106 [.own 0, I ((m - i : Nat) : Int), I (m : Int), I (i : Int), .clo (.func 43) [] []] [.arr 6 ((l1).map Ep.row)] (.tup []) [some (.arr 6 ((l').map Ep.row))]) : Contract Try.prog 102 [.own 0, I (a : Int), I (m : Int), I (b : Int), .clo (.func 43) [] []] [.arr 6 (l.map Ep.row)] (.tup []) [some (.arr 6 ((l').map Ep.row))] :=
 vcS hmix [.reg 0 [(2, [.be (I ((m - a : Nat) : Int))], none)], .reg 1 [(2, [.be (I ((b - m : Nat) : Int))], none)], .cut ⟨[0, 2, 4, 10, 11], [(0, 0)], []⟩ (.exit 0) (soR (l1)  m i i), .reg 8 [(3, [.be (I ((m - i : Nat) : Int))], none), (7, [.call [0] [] (.tup []) [some (.arr 6 ((l').map Ep.row))]], none)]] [] [⟨(by rw [i64_small (by simp; omega)]; simp; omega : IntKind.wrap IntKind.i64 (Int.ofNat m + -Int.ofNat a) = Int.ofNat (m - a))⟩, ⟨(by rw [i64_small (by simp; omega)]; simp; omega : IntKind.wrap IntKind.i64 (Int.ofNat b + -Int.ofNat m) = Int.ofNat (b - m))⟩, ⟨hl⟩, ⟨(by rw [i64_small (by simp; omega)]; simp; omega : IntKind.wrap IntKind.i64 (Int.ofNat m + -Int.ofNat i) = Int.ofNat (m - i))⟩, ⟨(by omega : Contract Try.prog 106 [.own 0, I (Int.ofNat (m - i)), I (Int.ofNat m), I (Int.ofNat i), V.clo (Fn.func 43) [] []] [.arr 6 (List.map Ep.row l1)] (.tup []) [some (.arr 6 (List.map Ep.row l'))])⟩]

theorem soRin  (m : Nat) : ∀ (n : Nat) (P X Y Q : List Ep), X.length + Y.length ≤ n → 0 < X.length → 0 < Y.length → m = P.length + X.length → P.length + X.length + Y.length + Q.length ≤ 1000000 →
    ∃ (i : Nat) (P' U V Q' : List Ep), U.length = i ∧ V.length = i ∧ m = P'.length + i ∧ P'.length + Q'.length + 2 * i ≤ 1000000 ∧ P' ++ V ++ U ++ Q' = P ++ Y ++ X ++ Q ∧
      LoopC Try.prog 1 58 soRB (soR (P ++ X ++ Y ++ Q)  m X.length Y.length) (.exit 0) (soR (P' ++ U ++ V ++ Q')  m i i)
  | 0, P, X, Y, Q, hn, h1, h2, hm, hs => by omega
  | n + 1, P, X, Y, Q, hn, h1, h2, hm, hs => by
    rcases Nat.lt_trichotomy X.length Y.length with h | h | h
    · -- the second one is longer: its end goes ahead
      have hY : Y.take (Y.length - X.length) ++ Y.drop (Y.length - X.length) = Y := List.take_append_drop _ _
      generalize hU : Y.take (Y.length - X.length) = U at hY
      generalize hV : Y.drop (Y.length - X.length) = V at hY
      have lU : U.length = Y.length - X.length := by rw [← hU]; simp
      have lV : V.length = X.length := by rw [← hV]; simp; omega
      have hc := soSwap  P X U V Q (m - X.length) (m + Y.length - X.length) X.length rfl lV (by omega) (by omega) (by omega)
      obtain ⟨i, P', U', V', Q', q1, q2, q3, q4, q5, q6⟩ := soRin  m n P V U (X ++ Q) (by omega) (by omega) (by omega) (by omega) (by simp; omega)
      refine ⟨i, P', U', V', Q', q1, q2, q3, q4, ?_, ?_⟩
      · rw [q5, ← hY]; simp
      · have hr := soRlt (P ++ X ++ U ++ V ++ Q) (P ++ V ++ U ++ X ++ Q)  m X.length Y.length h (by omega) (by omega) hc
        rw [lV, lU] at q6
        rw [← hY] at hr ⊢
        simp only [List.append_assoc, List.length_append] at hr q6 ⊢
        rw [show U.length + V.length - X.length = U.length by omega] at hr
        rw [show U.length + V.length = Y.length by omega] at hr ⊢
        rw [show Y.length - X.length = U.length by omega] at q6
        exact LoopC.next hr q6
    · -- both are as long
      refine ⟨X.length, P, X, Y, Q, rfl, by omega, hm, by omega, rfl, ?_⟩
      rw [← h]
      exact LoopC.last (soReq _  m _) (by simp)
    · -- the first one is longer: its beginning goes behind
      have hX : X.take Y.length ++ X.drop Y.length = X := List.take_append_drop _ _
      generalize hU : X.take Y.length = U at hX
      generalize hV : X.drop Y.length = V at hX
      have lU : U.length = Y.length := by rw [← hU]; simp; omega
      have lV : V.length = X.length - Y.length := by rw [← hV]; simp
      have hc := soSwap  P U V Y Q (m - X.length) m Y.length lU rfl (by omega) (by omega) (by omega)
      obtain ⟨i, P', U', V', Q', q1, q2, q3, q4, q5, q6⟩ := soRin  m n (P ++ Y) V U Q (by omega) (by omega) (by omega) (by simp; omega) (by simp; omega)
      refine ⟨i, P', U', V', Q', q1, q2, q3, q4, ?_, ?_⟩
      · rw [q5, ← hX]; simp
      · have hr := soRgt (P ++ U ++ V ++ Y ++ Q) (P ++ Y ++ V ++ U ++ Q)  m X.length Y.length h (by omega) (by omega) hc
        rw [lV, lU] at q6
        rw [← hX] at hr ⊢
        simp only [List.append_assoc, List.length_append] at hr q6 ⊢
        rw [show U.length + V.length - Y.length = V.length by omega] at hr
        rw [show X.length - Y.length = V.length by omega] at q6
        exact LoopC.next hr q6
/-- Two parts change places. -/
theorem soRot  (P X Y Q : List Ep) (a m b : Nat) (h1 : 0 < X.length) (h2 : 0 < Y.length) (ha : a = P.length) (hm : m = P.length + X.length) (hb : b = P.length + X.length + Y.length) (hs : P.length + X.length + Y.length + Q.length ≤ 1000000) :
    Contract Try.prog 102 [.own 0, I (a : Int), I (m : Int), I (b : Int), .clo (.func 43) [] []] [.arr 6 ((P ++ X ++ Y ++ Q).map Ep.row)] (.tup []) [some (.arr 6 ((P ++ Y ++ X ++ Q).map Ep.row))] := by
  obtain ⟨i, P', U', V', Q', q1, q2, q3, q4, q5, q6⟩ := soRin  m (X.length + Y.length) P X Y Q (Nat.le_refl _) h1 h2 hm hs
  have hc := soSwap  P' U' [] V' Q' (m - i) m i q1 q2 (by omega) (by simp; omega) (by simp; omega)
  simp only [List.append_nil] at hc
  rw [q5] at hc
  refine soR0 _ _ _  a m b i (by omega) (by omega) (by omega) (by omega) ?_ hc
  rw [show m - a = X.length by omega, show b - m = Y.length by omega]
  exact q6

end Go.Proofs.Ytdomjccibhgbjaa

/- sorting gleaning/api.Episode: merging in place. -/
namespace Go.Proofs.Ytdomjccibhgbjaa
open E
set_option maxRecDepth 100000
set_option linter.unusedVariables false
set_option linter.unusedSimpArgs false

def soX (l : List Ep)  (a m b i j : Nat) : SL := ⟨[(0, .own 0), (1, I (a : Int)), (2, I (m : Int)), (3, I (b : Int)), (4, .clo (.func 43) [] []), (10, I (i : Int)), (11, I (j : Int))], [(0, .arr 6 (l.map Ep.row))], [0, 0]⟩
def soK (l : List Ep)  (i k : Nat) : SL := ⟨[(0, .own 0), (10, I (i : Int)), (13, I (k : Int))], [(0, .arr 6 (l.map Ep.row))], [0, 0]⟩
def soY (l : List Ep)  (a m b i j : Nat) : SL := ⟨[(0, .own 0), (1, I (a : Int)), (2, I (m : Int)), (3, I (b : Int)), (4, .clo (.func 43) [] []), (14, I (i : Int)), (15, I (j : Int))], [(0, .arr 6 (l.map Ep.row))], [0, 0]⟩
def soH (l : List Ep)  (i k : Nat) : SL := ⟨[(0, .own 0), (14, I (i : Int)), (17, I (k : Int))], [(0, .arr 6 (l.map Ep.row))], [0, 0]⟩
def soZ (l : List Ep)  (a m b mid n i j p : Nat) : SL := ⟨[(0, .own 0), (1, I (a : Int)), (2, I (m : Int)), (3, I (b : Int)), (4, .clo (.func 43) [] []), (18, I (mid : Int)), (19, I (n : Int)), (20, I (i : Int)), (21, I (j : Int)), (22, I (p : Int))], [(0, .arr 6 (l.map Ep.row))], [0, 0]⟩
def soT (l : List Ep)  (a m b mid s e : Nat) : SL := ⟨[(0, .own 0), (1, I (a : Int)), (2, I (m : Int)), (3, I (b : Int)), (4, .clo (.func 43) [] []), (18, I (mid : Int)), (20, I (s : Int)), (24, I (e : Int))], [(0, .arr 6 (l.map Ep.row))], [0, 0]⟩
noncomputable def soXB : Code := codeAt Try.prog 91 [false, true, false, true, true, false, false, false]

noncomputable def soKB : Code := codeAt Try.prog 91 [false, true, false, true, true, true, false, true, false, false]

noncomputable def soYB : Code := codeAt Try.prog 91 [true, false, true, false, true, true, false, false, false]

noncomputable def soHB : Code := codeAt Try.prog 91 [true, false, true, false, true, true, true, false, true, false, false]

noncomputable def soZB : Code := codeAt Try.prog 91 [true, true, true, true, true, true, true, false, false, false]

noncomputable def soT1B : Code := codeAt Try.prog 91 [true, true, true, true, true, true, true, true, true]

noncomputable def soT2B : Code := codeAt Try.prog 91 [true, true, true, true, true, true, true, true, true, true]

noncomputable def soT3B : Code := codeAt Try.prog 91 [true, true, true, true, true, true, true, true, true, true, true]

theorem soXgo (l : List Ep)  (a m b i j : Nat) (x y : Ep) (hij : i < j) (hs : j ≤ 1000000) (hx : l[((i + j) / 2)]? = some x) (hy : l[a]? = some y) (hb : soLt  x y = true)  : CodeC Try.prog 1 220 soXB (soX (l)  a m b i j) .normal (soX (l)  a m b (((i + j) / 2) + 1) j) :=
 runS hmix [.reg 3 [(2, [], some true)], .reg 4 [(5, [.be (I ((((i + j) / 2) : Nat) : Int))], none)], .reg 5 [(4, [.row (Ep.row x)], none), (8, [.row (Ep.row y)], none), (9, [.call [] [] (I ((cmpE) x y)) []], none), (10, [], some true)], .reg 6 [(1, [.be (I ((((i + j) / 2) + 1 : Nat) : Int))], none)]] ⟨[0, 1, 2, 3, 4, 10, 11], [(0, 0)], []⟩ [⟨(by simp; omega : decide (Int.ofNat i < Int.ofNat j) = true)⟩, ⟨(by exact halfW (by omega) : IntKind.wrap IntKind.i64 (Int.fdiv (IntKind.wrap IntKind.u64 (IntKind.wrap IntKind.i64 (Int.ofNat (i + j)))) 2) = Int.ofNat ((i + j) / 2))⟩, ⟨(by simp; omega : 0 ≤ Int.ofNat ((i + j) / 2))⟩, ⟨(by have q := (List.getElem?_eq_some_iff.1 hx).1; simp; omega : Int.ofNat ((i + j) / 2) < Int.ofNat (List.length (List.map Ep.row l)))⟩, ⟨(by simp [hx] : (List.map Ep.row l)[(i + j) / 2]? = some (Ep.row x))⟩, ⟨nn a⟩, ⟨(by have q := (List.getElem?_eq_some_iff.1 hy).1; simp; omega : Int.ofNat a < Int.ofNat (List.length (List.map Ep.row l)))⟩, ⟨gtm Ep.row hy⟩, ⟨cCompare x y⟩, ⟨hb⟩, ⟨(by exact i64_small (by simp; omega) : IntKind.wrap IntKind.i64 (Int.ofNat ((i + j) / 2 + 1)) = Int.ofNat ((i + j) / 2 + 1))⟩]

theorem soXba (l : List Ep)  (a m b i j : Nat) (x y : Ep) (hij : i < j) (hs : j ≤ 1000000) (hx : l[((i + j) / 2)]? = some x) (hy : l[a]? = some y) (hb : soLt  x y = false)  : CodeC Try.prog 1 220 soXB (soX (l)  a m b i j) .normal (soX (l)  a m b i ((i + j) / 2)) :=
 runS hmix [.reg 3 [(2, [], some true)], .reg 4 [(5, [.be (I ((((i + j) / 2) : Nat) : Int))], none)], .reg 5 [(4, [.row (Ep.row x)], none), (8, [.row (Ep.row y)], none), (9, [.call [] [] (I ((cmpE) x y)) []], none), (10, [], some false)]] ⟨[0, 1, 2, 3, 4, 10, 11], [(0, 0)], []⟩ [⟨(by simp; omega : decide (Int.ofNat i < Int.ofNat j) = true)⟩, ⟨(by exact halfW (by omega) : IntKind.wrap IntKind.i64 (Int.fdiv (IntKind.wrap IntKind.u64 (IntKind.wrap IntKind.i64 (Int.ofNat (i + j)))) 2) = Int.ofNat ((i + j) / 2))⟩, ⟨(by simp; omega : 0 ≤ Int.ofNat ((i + j) / 2))⟩, ⟨(by have q := (List.getElem?_eq_some_iff.1 hx).1; simp; omega : Int.ofNat ((i + j) / 2) < Int.ofNat (List.length (List.map Ep.row l)))⟩, ⟨(by simp [hx] : (List.map Ep.row l)[(i + j) / 2]? = some (Ep.row x))⟩, ⟨nn a⟩, ⟨(by have q := (List.getElem?_eq_some_iff.1 hy).1; simp; omega : Int.ofNat a < Int.ofNat (List.length (List.map Ep.row l)))⟩, ⟨gtm Ep.row hy⟩, ⟨cCompare x y⟩, ⟨hb⟩]

theorem soXz (l : List Ep)  (a m b i j : Nat) (hij : j ≤ i)  : CodeC Try.prog 1 220 soXB (soX (l)  a m b i j) (.exit 0) (soX (l)  a m b i j) :=
 runS hmix [.reg 3 [(2, [], some false)]] ⟨[0, 1, 2, 3, 4, 10, 11], [(0, 0)], []⟩ [⟨(by simp; omega : decide (Int.ofNat i < Int.ofNat j) = false)⟩]

theorem soKgo (A B : List Ep) (x y : Ep)  (i k : Nat) (hk : k = A.length) (hi : k + 1 < i) (hs : i ≤ 1000000) (hl : A.length + B.length ≤ 1000000)  : CodeC Try.prog 1 220 soKB (soK (A ++ x :: y :: B)  i k) .normal (soK (A ++ y :: x :: B)  i (k + 1)) :=
 runS hmix [.reg 9 [(2, [.be (I ((i - 1 : Nat) : Int))], none), (3, [], some true)], .reg 11 [(4, [.be (I ((A.length + 1 : Nat) : Int))], none), (7, [.be (I ((A.length + 1 : Nat) : Int))], none), (9, [.row (Ep.row y)], none), (13, [.row (Ep.row x)], none), (15, [.row (Ep.row x), .beO ((A ++ y :: y :: B).map Ep.row)], none), (17, [.row (Ep.row y), .beO ((A ++ y :: x :: B).map Ep.row)], none)], .reg 10 [(1, [.be (I ((k + 1 : Nat) : Int))], none)]] ⟨[0, 10, 13], [(0, 0)], []⟩ [⟨(by rw [i64_small (by simp; omega)]; simp; omega : IntKind.wrap IntKind.i64 (Int.ofNat i + (-1)) = Int.ofNat (i - 1))⟩, ⟨(by simp; omega : decide (Int.ofNat k < Int.ofNat (i - 1)) = true)⟩, ⟨(by rw [i64_small (by simp; omega)]; simp; omega : IntKind.wrap IntKind.i64 (Int.ofNat (k + 1)) = Int.ofNat (List.length A + 1))⟩, ⟨(by rw [i64_small (by simp; omega)]; simp; omega : IntKind.wrap IntKind.i64 (Int.ofNat (k + 1)) = Int.ofNat (List.length A + 1))⟩, ⟨nn (List.length A + 1)⟩, ⟨(by simp; omega : Int.ofNat (List.length A + 1) < Int.ofNat (List.length (List.map Ep.row (A ++ x :: y :: B))))⟩, ⟨(by exact at2 rfl : (List.map Ep.row (A ++ x :: y :: B))[Int.toNat (Int.ofNat (List.length A + 1))]? = some (Ep.row y))⟩, ⟨nn k⟩, ⟨(by simp; omega : Int.ofNat k < Int.ofNat (List.length (List.map Ep.row (A ++ x :: y :: B))))⟩, ⟨(by exact at1 (by omega) : (List.map Ep.row (A ++ x :: y :: B))[k]? = some (Ep.row x))⟩, ⟨nn k⟩, ⟨(by simp; omega : Int.ofNat k < Int.ofNat (List.length (List.map Ep.row (A ++ x :: y :: B))))⟩, ⟨(by exact at1 (by omega) : (List.map Ep.row (A ++ x :: y :: B))[k]? = some (Ep.row x))⟩, ⟨(by exact set1 (by omega) : List.set (List.map Ep.row (A ++ x :: y :: B)) k [(U (Ep.hi y)), (U (Ep.lo y)), I (Ep.first y), I (Ep.last y), Bo (Ep.sure y), .sl 10 (List.map Sp.row (Ep.spans y))] = List.map Ep.row (A ++ y :: y :: B))⟩, ⟨nn (List.length A + 1)⟩, ⟨(by simp; omega : Int.ofNat (List.length A + 1) < Int.ofNat (List.length (List.map Ep.row (A ++ y :: y :: B))))⟩, ⟨(by exact at2 rfl : (List.map Ep.row (A ++ y :: y :: B))[Int.toNat (Int.ofNat (List.length A + 1))]? = some (Ep.row y))⟩, ⟨(by exact set2 rfl : List.set (List.map Ep.row (A ++ y :: y :: B)) (Int.toNat (Int.ofNat (List.length A + 1))) [(U (Ep.hi x)), (U (Ep.lo x)), I (Ep.first x), I (Ep.last x), Bo (Ep.sure x), .sl 10 (List.map Sp.row (Ep.spans x))] = List.map Ep.row (A ++ y :: x :: B))⟩, ⟨w64 (k + 1) (by omega)⟩]

theorem soKz (l : List Ep)  (i k : Nat) (h1 : 1 ≤ i) (hs : i ≤ 1000000) (hi : i ≤ k + 1)  : CodeC Try.prog 1 220 soKB (soK (l)  i k) (.exit 2) (soK (l)  i k) :=
 runS hmix [.reg 9 [(2, [.be (I ((i - 1 : Nat) : Int))], none), (3, [], some false)]] ⟨[0, 10, 13], [(0, 0)], []⟩ [⟨(by rw [i64_small (by simp; omega)]; simp; omega : IntKind.wrap IntKind.i64 (Int.ofNat i + (-1)) = Int.ofNat (i - 1))⟩, ⟨(by simp; omega : decide (Int.ofNat k < Int.ofNat (i - 1)) = false)⟩]

theorem soYgo (l : List Ep)  (a m b i j : Nat) (x y : Ep) (hij : i < j) (hs : j ≤ 1000000) (hx : l[m]? = some x) (hy : l[((i + j) / 2)]? = some y) (hb : soLt  x y = false)  : CodeC Try.prog 1 220 soYB (soY (l)  a m b i j) .normal (soY (l)  a m b (((i + j) / 2) + 1) j) :=
 runS hmix [.reg 15 [(2, [], some true)], .reg 16 [(5, [.be (I ((((i + j) / 2) : Nat) : Int))], none)], .reg 17 [(4, [.row (Ep.row x)], none), (8, [.row (Ep.row y)], none), (9, [.call [] [] (I ((cmpE) x y)) []], none), (10, [], some false)], .reg 18 [(1, [.be (I ((((i + j) / 2) + 1 : Nat) : Int))], none)]] ⟨[0, 1, 2, 3, 4, 14, 15], [(0, 0)], []⟩ [⟨(by simp; omega : decide (Int.ofNat i < Int.ofNat j) = true)⟩, ⟨(by exact halfW (by omega) : IntKind.wrap IntKind.i64 (Int.fdiv (IntKind.wrap IntKind.u64 (IntKind.wrap IntKind.i64 (Int.ofNat (i + j)))) 2) = Int.ofNat ((i + j) / 2))⟩, ⟨nn m⟩, ⟨(by have q := (List.getElem?_eq_some_iff.1 hx).1; simp; omega : Int.ofNat m < Int.ofNat (List.length (List.map Ep.row l)))⟩, ⟨gtm Ep.row hx⟩, ⟨(by simp; omega : 0 ≤ Int.ofNat ((i + j) / 2))⟩, ⟨(by have q := (List.getElem?_eq_some_iff.1 hy).1; simp; omega : Int.ofNat ((i + j) / 2) < Int.ofNat (List.length (List.map Ep.row l)))⟩, ⟨(by simp [hy] : (List.map Ep.row l)[(i + j) / 2]? = some (Ep.row y))⟩, ⟨cCompare x y⟩, ⟨hb⟩, ⟨(by exact i64_small (by simp; omega) : IntKind.wrap IntKind.i64 (Int.ofNat ((i + j) / 2 + 1)) = Int.ofNat ((i + j) / 2 + 1))⟩]

theorem soYba (l : List Ep)  (a m b i j : Nat) (x y : Ep) (hij : i < j) (hs : j ≤ 1000000) (hx : l[m]? = some x) (hy : l[((i + j) / 2)]? = some y) (hb : soLt  x y = true)  : CodeC Try.prog 1 220 soYB (soY (l)  a m b i j) .normal (soY (l)  a m b i ((i + j) / 2)) :=
 runS hmix [.reg 15 [(2, [], some true)], .reg 16 [(5, [.be (I ((((i + j) / 2) : Nat) : Int))], none)], .reg 17 [(4, [.row (Ep.row x)], none), (8, [.row (Ep.row y)], none), (9, [.call [] [] (I ((cmpE) x y)) []], none), (10, [], some true)]] ⟨[0, 1, 2, 3, 4, 14, 15], [(0, 0)], []⟩ [⟨(by simp; omega : decide (Int.ofNat i < Int.ofNat j) = true)⟩, ⟨(by exact halfW (by omega) : IntKind.wrap IntKind.i64 (Int.fdiv (IntKind.wrap IntKind.u64 (IntKind.wrap IntKind.i64 (Int.ofNat (i + j)))) 2) = Int.ofNat ((i + j) / 2))⟩, ⟨nn m⟩, ⟨(by have q := (List.getElem?_eq_some_iff.1 hx).1; simp; omega : Int.ofNat m < Int.ofNat (List.length (List.map Ep.row l)))⟩, ⟨gtm Ep.row hx⟩, ⟨(by simp; omega : 0 ≤ Int.ofNat ((i + j) / 2))⟩, ⟨(by have q := (List.getElem?_eq_some_iff.1 hy).1; simp; omega : Int.ofNat ((i + j) / 2) < Int.ofNat (List.length (List.map Ep.row l)))⟩, ⟨(by simp [hy] : (List.map Ep.row l)[(i + j) / 2]? = some (Ep.row y))⟩, ⟨cCompare x y⟩, ⟨hb⟩]

theorem soYz (l : List Ep)  (a m b i j : Nat) (hij : j ≤ i)  : CodeC Try.prog 1 220 soYB (soY (l)  a m b i j) (.exit 4) (soY (l)  a m b i j) :=
 runS hmix [.reg 15 [(2, [], some false)]] ⟨[0, 1, 2, 3, 4, 14, 15], [(0, 0)], []⟩ [⟨(by simp; omega : decide (Int.ofNat i < Int.ofNat j) = false)⟩]

theorem soHgo (A B : List Ep) (x y : Ep)  (i k : Nat) (hk : k = A.length + 1) (hi : i < k) (hl : A.length + B.length ≤ 1000000)  : CodeC Try.prog 1 220 soHB (soH (A ++ y :: x :: B)  i k) .normal (soH (A ++ x :: y :: B)  i A.length) :=
 runS hmix [.reg 21 [(2, [], some true)], .reg 23 [(4, [.be (I ((A.length : Nat) : Int))], none), (7, [.be (I ((A.length : Nat) : Int))], none), (9, [.row (Ep.row y)], none), (13, [.row (Ep.row x)], none), (15, [.row (Ep.row x), .beO ((A ++ y :: y :: B).map Ep.row)], none), (17, [.row (Ep.row y), .beO ((A ++ x :: y :: B).map Ep.row)], none)], .reg 22 [(1, [.be (I ((A.length : Nat) : Int))], none)]] ⟨[0, 14, 17], [(0, 0)], []⟩ [⟨(by simp; omega : decide (Int.ofNat k > Int.ofNat i) = true)⟩, ⟨(by rw [i64_small (by simp; omega)]; simp; omega : IntKind.wrap IntKind.i64 (Int.ofNat k + (-1)) = Int.ofNat (List.length A))⟩, ⟨(by rw [i64_small (by simp; omega)]; simp; omega : IntKind.wrap IntKind.i64 (Int.ofNat k + (-1)) = Int.ofNat (List.length A))⟩, ⟨nn (List.length A)⟩, ⟨(by simp; omega : Int.ofNat (List.length A) < Int.ofNat (List.length (List.map Ep.row (A ++ y :: x :: B))))⟩, ⟨(by exact at1 (by omega) : (List.map Ep.row (A ++ y :: x :: B))[List.length A]? = some (Ep.row y))⟩, ⟨nn k⟩, ⟨(by simp; omega : Int.ofNat k < Int.ofNat (List.length (List.map Ep.row (A ++ y :: x :: B))))⟩, ⟨(by exact at2 (by omega) : (List.map Ep.row (A ++ y :: x :: B))[k]? = some (Ep.row x))⟩, ⟨nn k⟩, ⟨(by simp; omega : Int.ofNat k < Int.ofNat (List.length (List.map Ep.row (A ++ y :: x :: B))))⟩, ⟨(by exact at2 (by omega) : (List.map Ep.row (A ++ y :: x :: B))[k]? = some (Ep.row x))⟩, ⟨(by exact set2 (by omega) : List.set (List.map Ep.row (A ++ y :: x :: B)) k [(U (Ep.hi y)), (U (Ep.lo y)), I (Ep.first y), I (Ep.last y), Bo (Ep.sure y), .sl 10 (List.map Sp.row (Ep.spans y))] = List.map Ep.row (A ++ y :: y :: B))⟩, ⟨nn (List.length A)⟩, ⟨(by simp; omega : Int.ofNat (List.length A) < Int.ofNat (List.length (List.map Ep.row (A ++ y :: y :: B))))⟩, ⟨(by exact at1 (by omega) : (List.map Ep.row (A ++ y :: y :: B))[List.length A]? = some (Ep.row y))⟩, ⟨(by exact set1 (by omega) : List.set (List.map Ep.row (A ++ y :: y :: B)) (List.length A) [(U (Ep.hi x)), (U (Ep.lo x)), I (Ep.first x), I (Ep.last x), Bo (Ep.sure x), .sl 10 (List.map Sp.row (Ep.spans x))] = List.map Ep.row (A ++ x :: y :: B))⟩, ⟨(by rw [i64_small (by simp; omega)]; simp; omega : IntKind.wrap IntKind.i64 (Int.ofNat k + (-1)) = Int.ofNat (List.length A))⟩]

theorem soHz (l : List Ep)  (i k : Nat) (hi : k ≤ i)  : CodeC Try.prog 1 220 soHB (soH (l)  i k) (.exit 6) (soH (l)  i k) :=
 runS hmix [.reg 21 [(2, [], some false)]] ⟨[0, 14, 17], [(0, 0)], []⟩ [⟨(by simp; omega : decide (Int.ofNat k > Int.ofNat i) = false)⟩]

theorem soZgo (l : List Ep)  (a m b mid n i j p : Nat) (x y : Ep) (hij : i < j) (hs : j ≤ 1000000) (hp : j ≤ p + 1) (hp2 : p ≤ 1000000) (hx : l[p - ((i + j) / 2)]? = some x) (hy : l[((i + j) / 2)]? = some y) (hb : soLt  x y = false)  : CodeC Try.prog 1 220 soZB (soZ (l)  a m b mid n i j p) .normal (soZ (l)  a m b mid n (((i + j) / 2) + 1) j p) :=
 runS hmix [.reg 33 [(2, [], some true)], .reg 34 [(5, [.be (I ((((i + j) / 2) : Nat) : Int))], none)], .reg 35 [(4, [.be (I ((p - ((i + j) / 2) : Nat) : Int))], none), (6, [.row (Ep.row x)], none), (10, [.row (Ep.row y)], none), (11, [.call [] [] (I ((cmpE) x y)) []], none), (12, [], some false)], .reg 36 [(1, [.be (I ((((i + j) / 2) + 1 : Nat) : Int))], none)]] ⟨[0, 1, 2, 3, 4, 18, 19, 20, 21, 22], [(0, 0)], []⟩ [⟨(by simp; omega : decide (Int.ofNat i < Int.ofNat j) = true)⟩, ⟨(by exact halfW (by omega) : IntKind.wrap IntKind.i64 (Int.fdiv (IntKind.wrap IntKind.u64 (IntKind.wrap IntKind.i64 (Int.ofNat (i + j)))) 2) = Int.ofNat ((i + j) / 2))⟩, ⟨(by rw [i64_small (by simp; omega)]; simp; omega : IntKind.wrap IntKind.i64 (Int.ofNat p + -Int.ofNat ((i + j) / 2)) = Int.ofNat (p - (i + j) / 2))⟩, ⟨(by simp [hx] : 0 ≤ Int.ofNat (p - (i + j) / 2))⟩, ⟨(by have q := (List.getElem?_eq_some_iff.1 hx).1; simp; omega : Int.ofNat (p - (i + j) / 2) < Int.ofNat (List.length (List.map Ep.row l)))⟩, ⟨(by simp [hx] : (List.map Ep.row l)[p - (i + j) / 2]? = some (Ep.row x))⟩, ⟨(by simp; omega : 0 ≤ Int.ofNat ((i + j) / 2))⟩, ⟨(by have q := (List.getElem?_eq_some_iff.1 hy).1; simp; omega : Int.ofNat ((i + j) / 2) < Int.ofNat (List.length (List.map Ep.row l)))⟩, ⟨(by simp [hy] : (List.map Ep.row l)[(i + j) / 2]? = some (Ep.row y))⟩, ⟨cCompare x y⟩, ⟨hb⟩, ⟨(by exact i64_small (by simp; omega) : IntKind.wrap IntKind.i64 (Int.ofNat ((i + j) / 2 + 1)) = Int.ofNat ((i + j) / 2 + 1))⟩]

theorem soZba (l : List Ep)  (a m b mid n i j p : Nat) (x y : Ep) (hij : i < j) (hs : j ≤ 1000000) (hp : j ≤ p + 1) (hp2 : p ≤ 1000000) (hx : l[p - ((i + j) / 2)]? = some x) (hy : l[((i + j) / 2)]? = some y) (hb : soLt  x y = true)  : CodeC Try.prog 1 220 soZB (soZ (l)  a m b mid n i j p) .normal (soZ (l)  a m b mid n i ((i + j) / 2) p) :=
 runS hmix [.reg 33 [(2, [], some true)], .reg 34 [(5, [.be (I ((((i + j) / 2) : Nat) : Int))], none)], .reg 35 [(4, [.be (I ((p - ((i + j) / 2) : Nat) : Int))], none), (6, [.row (Ep.row x)], none), (10, [.row (Ep.row y)], none), (11, [.call [] [] (I ((cmpE) x y)) []], none), (12, [], some true)]] ⟨[0, 1, 2, 3, 4, 18, 19, 20, 21, 22], [(0, 0)], []⟩ [⟨(by simp; omega : decide (Int.ofNat i < Int.ofNat j) = true)⟩, ⟨(by exact halfW (by omega) : IntKind.wrap IntKind.i64 (Int.fdiv (IntKind.wrap IntKind.u64 (IntKind.wrap IntKind.i64 (Int.ofNat (i + j)))) 2) = Int.ofNat ((i + j) / 2))⟩, ⟨(by rw [i64_small (by simp; omega)]; simp; omega : IntKind.wrap IntKind.i64 (Int.ofNat p + -Int.ofNat ((i + j) / 2)) = Int.ofNat (p - (i + j) / 2))⟩, ⟨(by simp [hx] : 0 ≤ Int.ofNat (p - (i + j) / 2))⟩, ⟨(by have q := (List.getElem?_eq_some_iff.1 hx).1; simp; omega : Int.ofNat (p - (i + j) / 2) < Int.ofNat (List.length (List.map Ep.row l)))⟩, ⟨(by simp [hx] : (List.map Ep.row l)[p - (i + j) / 2]? = some (Ep.row x))⟩, ⟨(by simp; omega : 0 ≤ Int.ofNat ((i + j) / 2))⟩, ⟨(by have q := (List.getElem?_eq_some_iff.1 hy).1; simp; omega : Int.ofNat ((i + j) / 2) < Int.ofNat (List.length (List.map Ep.row l)))⟩, ⟨(by simp [hy] : (List.map Ep.row l)[(i + j) / 2]? = some (Ep.row y))⟩, ⟨cCompare x y⟩, ⟨hb⟩]

theorem soZz (l : List Ep)  (a m b mid n i j p : Nat) (hij : j ≤ i)  : CodeC Try.prog 1 220 soZB (soZ (l)  a m b mid n i j p) (.exit 8) (soZ (l)  a m b mid n i j p) :=
 runS hmix [.reg 33 [(2, [], some false)]] ⟨[0, 1, 2, 3, 4, 18, 19, 20, 21, 22], [(0, 0)], []⟩ [⟨(by simp; omega : decide (Int.ofNat i < Int.ofNat j) = false)⟩]

theorem soS1 (l l' : List Ep)  (a m b r k : Nat) (hm : m = a + 1) (hs : b ≤ 1000000) (hmb : m ≤ b) (hl : LoopC Try.prog 1 220 soXB (soX (l)  a m b m b) (.exit 0) (soX (l)  a m b r r)) (hk : LoopC Try.prog 1 220 soKB (soK (l)  r a) (.exit 2) (soK (l')  r k)) : Contract Try.prog 91 [.own 0, I (a : Int), I (m : Int), I (b : Int), .clo (.func 43) [] []] [.arr 6 ((l).map Ep.row)] (.tup []) [some (.arr 6 ((l').map Ep.row))] :=
 vcS hmix [.reg 0 [(2, [.be (I ((m - a : Nat) : Int))], none), (3, [], some true)], .cut ⟨[0, 1, 2, 3, 4, 10, 11], [(0, 0)], []⟩ (.exit 0) (soX (l)  a m b r r), .cut ⟨[0, 10, 13], [(0, 0)], []⟩ (.exit 2) (soK (l')  r k)] [] [⟨(by rw [i64_small (by simp; omega)]; simp; omega : IntKind.wrap IntKind.i64 (Int.ofNat m + -Int.ofNat a) = Int.ofNat (m - a))⟩, ⟨(by simp; omega : (Int.ofNat (m - a) == 1) = true)⟩, ⟨hl⟩, ⟨hk⟩]

theorem soS2 (l l' : List Ep)  (a m b r k : Nat) (hm : m ≠ a + 1) (ham : a ≤ m) (hb : b = m + 1) (hs : b ≤ 1000000) (hl : LoopC Try.prog 1 220 soYB (soY (l)  a m b a m) (.exit 4) (soY (l)  a m b r r)) (hk : LoopC Try.prog 1 220 soHB (soH (l)  r m) (.exit 6) (soH (l')  r k)) : Contract Try.prog 91 [.own 0, I (a : Int), I (m : Int), I (b : Int), .clo (.func 43) [] []] [.arr 6 ((l).map Ep.row)] (.tup []) [some (.arr 6 ((l').map Ep.row))] :=
 vcS hmix [.reg 0 [(2, [.be (I ((m - a : Nat) : Int))], none), (3, [], some false)], .reg 12 [(2, [.be (I ((b - m : Nat) : Int))], none), (3, [], some true)], .cut ⟨[0, 1, 2, 3, 4, 14, 15], [(0, 0)], []⟩ (.exit 4) (soY (l)  a m b r r), .cut ⟨[0, 14, 17], [(0, 0)], []⟩ (.exit 6) (soH (l')  r k)] [] [⟨(by rw [i64_small (by simp; omega)]; simp; omega : IntKind.wrap IntKind.i64 (Int.ofNat m + -Int.ofNat a) = Int.ofNat (m - a))⟩, ⟨(by simp; omega : (Int.ofNat (m - a) == 1) = false)⟩, ⟨(by rw [i64_small (by simp; omega)]; simp; omega : IntKind.wrap IntKind.i64 (Int.ofNat b + -Int.ofNat m) = Int.ofNat (b - m))⟩, ⟨(by simp; omega : (Int.ofNat (b - m) == 1) = true)⟩, ⟨hl⟩, ⟨hk⟩]

theorem soT3go (l r : List Ep)  (a m b mid s e : Nat) (hq : mid < e ∧ e < b) (hc : Contract Try.prog 91 [.own 0, I ((mid : Nat) : Int), I ((e : Nat) : Int), I ((b : Nat) : Int), .clo (.func 43) [] []] [.arr 6 ((l).map Ep.row)] (.tup []) [some (.arr 6 ((r).map Ep.row))])  : CodeC Try.prog 1 220 soT3B (soT (l)  a m b mid s e) .normal (soT (r)  a m b mid s e) :=
 runS hmix [.reg 43 [(3, [], some true), (7, [], some true)], .reg 44 [(5, [.call [0] [] (.tup []) [some (.arr 6 ((r).map Ep.row))]], none)]] ⟨[0, 1, 2, 3, 4, 18, 20, 24], [(0, 0)], []⟩ [⟨(by simp; omega : decide (Int.ofNat mid < Int.ofNat e) = true)⟩, ⟨(by simp; omega : decide (Int.ofNat e < Int.ofNat b) = true)⟩, ⟨(by omega : Contract Try.prog 91 [.own 0, I (Int.ofNat mid), I (Int.ofNat e), I (Int.ofNat b), V.clo (Fn.func 43) [] []] [.arr 6 (List.map Ep.row l)] (.tup []) [some (.arr 6 (List.map Ep.row r))])⟩]

theorem soT3no_0 (l : List Ep)  (a m b mid s e : Nat) (hq : ¬ (mid < e ∧ e < b)) (tq0 : (decide (Int.ofNat mid < Int.ofNat e)) = true) : CodeC Try.prog 1 220 soT3B (soT (l)  a m b mid s e) .normal (soT (l)  a m b mid s e) :=
 runS hmix [.reg 43 [(3, [], some true), (7, [], some false)]] ⟨[0, 1, 2, 3, 4, 18, 20, 24], [(0, 0)], []⟩ [⟨tq0⟩, ⟨(by have d0 := tq0; try simp only [Int.ofNat_eq_natCast, List.length_map, Bool.not_eq_true', Bool.not_eq_false', decide_eq_true_eq, decide_eq_false_iff_not] at d0; simp; omega : decide (Int.ofNat e < Int.ofNat b) = false)⟩]

theorem soT3no_1 (l : List Ep)  (a m b mid s e : Nat) (hq : ¬ (mid < e ∧ e < b)) (tq0 : (decide (Int.ofNat mid < Int.ofNat e)) = false) : CodeC Try.prog 1 220 soT3B (soT (l)  a m b mid s e) .normal (soT (l)  a m b mid s e) :=
 runS hmix [.reg 43 [(3, [], some false), (7, [], some false)]] ⟨[0, 1, 2, 3, 4, 18, 20, 24], [(0, 0)], []⟩ [⟨tq0⟩, ⟨(by simp : false = false)⟩]

theorem soT3no (l : List Ep)  (a m b mid s e : Nat) (hq : ¬ (mid < e ∧ e < b))  : CodeC Try.prog 1 220 soT3B (soT (l)  a m b mid s e) .normal (soT (l)  a m b mid s e) := by
  rcases tf (decide (Int.ofNat mid < Int.ofNat e)) with tq0 | tq0
  · exact soT3no_0 l a m b mid s e hq tq0
  · exact soT3no_1 l a m b mid s e hq tq0

theorem soT2go (l l1 r : List Ep)  (a m b mid s e : Nat) (hq : a < s ∧ s < mid) (hc : Contract Try.prog 91 [.own 0, I ((a : Nat) : Int), I ((s : Nat) : Int), I ((mid : Nat) : Int), .clo (.func 43) [] []] [.arr 6 ((l).map Ep.row)] (.tup []) [some (.arr 6 ((l1).map Ep.row))]) (hn : CodeC Try.prog 1 220 soT3B (soT (l1)  a m b mid s e) .normal (soT (r)  a m b mid s e))  : CodeC Try.prog 1 220 soT2B (soT (l)  a m b mid s e) .normal (soT (r)  a m b mid s e) :=
 runS hmix [.reg 41 [(3, [], some true), (7, [], some true)], .reg 42 [(5, [.call [0] [] (.tup []) [some (.arr 6 ((l1).map Ep.row))]], none)], .tail 43 ⟨[0, 1, 2, 3, 4, 18, 20, 24], [(0, 0)], []⟩ .normal (soT (r)  a m b mid s e)] ⟨[0, 1, 2, 3, 4, 18, 20, 24], [(0, 0)], []⟩ [⟨(by simp; omega : decide (Int.ofNat a < Int.ofNat s) = true)⟩, ⟨(by simp; omega : decide (Int.ofNat s < Int.ofNat mid) = true)⟩, ⟨(by omega : Contract Try.prog 91 [.own 0, I (Int.ofNat a), I (Int.ofNat s), I (Int.ofNat mid), V.clo (Fn.func 43) [] []] [.arr 6 (List.map Ep.row l)] (.tup []) [some (.arr 6 (List.map Ep.row l1))])⟩, ⟨hn⟩]

theorem soT2no_0 (l r : List Ep)  (a m b mid s e : Nat) (hq : ¬ (a < s ∧ s < mid)) (hn : CodeC Try.prog 1 220 soT3B (soT (l)  a m b mid s e) .normal (soT (r)  a m b mid s e)) (tq0 : (decide (Int.ofNat a < Int.ofNat s)) = true) : CodeC Try.prog 1 220 soT2B (soT (l)  a m b mid s e) .normal (soT (r)  a m b mid s e) :=
 runS hmix [.reg 41 [(3, [], some true), (7, [], some false)], .tail 43 ⟨[0, 1, 2, 3, 4, 18, 20, 24], [(0, 0)], []⟩ .normal (soT (r)  a m b mid s e)] ⟨[0, 1, 2, 3, 4, 18, 20, 24], [(0, 0)], []⟩ [⟨tq0⟩, ⟨(by have d0 := tq0; try simp only [Int.ofNat_eq_natCast, List.length_map, Bool.not_eq_true', Bool.not_eq_false', decide_eq_true_eq, decide_eq_false_iff_not] at d0; simp; omega : decide (Int.ofNat s < Int.ofNat mid) = false)⟩, ⟨hn⟩]

theorem soT2no_1 (l r : List Ep)  (a m b mid s e : Nat) (hq : ¬ (a < s ∧ s < mid)) (hn : CodeC Try.prog 1 220 soT3B (soT (l)  a m b mid s e) .normal (soT (r)  a m b mid s e)) (tq0 : (decide (Int.ofNat a < Int.ofNat s)) = false) : CodeC Try.prog 1 220 soT2B (soT (l)  a m b mid s e) .normal (soT (r)  a m b mid s e) :=
 runS hmix [.reg 41 [(3, [], some false), (7, [], some false)], .tail 43 ⟨[0, 1, 2, 3, 4, 18, 20, 24], [(0, 0)], []⟩ .normal (soT (r)  a m b mid s e)] ⟨[0, 1, 2, 3, 4, 18, 20, 24], [(0, 0)], []⟩ [⟨tq0⟩, ⟨(by simp : false = false)⟩, ⟨hn⟩]

theorem soT2no (l r : List Ep)  (a m b mid s e : Nat) (hq : ¬ (a < s ∧ s < mid)) (hn : CodeC Try.prog 1 220 soT3B (soT (l)  a m b mid s e) .normal (soT (r)  a m b mid s e))  : CodeC Try.prog 1 220 soT2B (soT (l)  a m b mid s e) .normal (soT (r)  a m b mid s e) := by
  rcases tf (decide (Int.ofNat a < Int.ofNat s)) with tq0 | tq0
  · exact soT2no_0 l r a m b mid s e hq hn tq0
  · exact soT2no_1 l r a m b mid s e hq hn tq0

theorem soT1go (l l1 r : List Ep)  (a m b mid s e : Nat) (hq : s < m ∧ m < e) (hc : Contract Try.prog 102 [.own 0, I ((s : Nat) : Int), I ((m : Nat) : Int), I ((e : Nat) : Int), .clo (.func 43) [] []] [.arr 6 ((l).map Ep.row)] (.tup []) [some (.arr 6 ((l1).map Ep.row))]) (hn : CodeC Try.prog 1 220 soT2B (soT (l1)  a m b mid s e) .normal (soT (r)  a m b mid s e))  : CodeC Try.prog 1 220 soT1B (soT (l)  a m b mid s e) .normal (soT (r)  a m b mid s e) :=
 runS hmix [.reg 39 [(3, [], some true), (7, [], some true)], .reg 40 [(5, [.call [0] [] (.tup []) [some (.arr 6 ((l1).map Ep.row))]], none)], .tail 41 ⟨[0, 1, 2, 3, 4, 18, 20, 24], [(0, 0)], []⟩ .normal (soT (r)  a m b mid s e)] ⟨[0, 1, 2, 3, 4, 18, 20, 24], [(0, 0)], []⟩ [⟨(by simp; omega : decide (Int.ofNat s < Int.ofNat m) = true)⟩, ⟨(by simp; omega : decide (Int.ofNat m < Int.ofNat e) = true)⟩, ⟨(by omega : Contract Try.prog 102 [.own 0, I (Int.ofNat s), I (Int.ofNat m), I (Int.ofNat e), V.clo (Fn.func 43) [] []] [.arr 6 (List.map Ep.row l)] (.tup []) [some (.arr 6 (List.map Ep.row l1))])⟩, ⟨hn⟩]

theorem soT1no_0 (l r : List Ep)  (a m b mid s e : Nat) (hq : ¬ (s < m ∧ m < e)) (hn : CodeC Try.prog 1 220 soT2B (soT (l)  a m b mid s e) .normal (soT (r)  a m b mid s e)) (tq0 : (decide (Int.ofNat s < Int.ofNat m)) = true) : CodeC Try.prog 1 220 soT1B (soT (l)  a m b mid s e) .normal (soT (r)  a m b mid s e) :=
 runS hmix [.reg 39 [(3, [], some true), (7, [], some false)], .tail 41 ⟨[0, 1, 2, 3, 4, 18, 20, 24], [(0, 0)], []⟩ .normal (soT (r)  a m b mid s e)] ⟨[0, 1, 2, 3, 4, 18, 20, 24], [(0, 0)], []⟩ [⟨tq0⟩, ⟨(by have d0 := tq0; try simp only [Int.ofNat_eq_natCast, List.length_map, Bool.not_eq_true', Bool.not_eq_false', decide_eq_true_eq, decide_eq_false_iff_not] at d0; simp; omega : decide (Int.ofNat m < Int.ofNat e) = false)⟩, ⟨hn⟩]

theorem soT1no_1 (l r : List Ep)  (a m b mid s e : Nat) (hq : ¬ (s < m ∧ m < e)) (hn : CodeC Try.prog 1 220 soT2B (soT (l)  a m b mid s e) .normal (soT (r)  a m b mid s e)) (tq0 : (decide (Int.ofNat s < Int.ofNat m)) = false) : CodeC Try.prog 1 220 soT1B (soT (l)  a m b mid s e) .normal (soT (r)  a m b mid s e) :=
 runS hmix [.reg 39 [(3, [], some false), (7, [], some false)], .tail 41 ⟨[0, 1, 2, 3, 4, 18, 20, 24], [(0, 0)], []⟩ .normal (soT (r)  a m b mid s e)] ⟨[0, 1, 2, 3, 4, 18, 20, 24], [(0, 0)], []⟩ [⟨tq0⟩, ⟨(by simp : false = false)⟩, ⟨hn⟩]

theorem soT1no (l r : List Ep)  (a m b mid s e : Nat) (hq : ¬ (s < m ∧ m < e)) (hn : CodeC Try.prog 1 220 soT2B (soT (l)  a m b mid s e) .normal (soT (r)  a m b mid s e))  : CodeC Try.prog 1 220 soT1B (soT (l)  a m b mid s e) .normal (soT (r)  a m b mid s e) := by
  rcases tf (decide (Int.ofNat s < Int.ofNat m)) with tq0 | tq0
  · exact soT1no_0 l r a m b mid s e hq hn tq0
  · exact soT1no_1 l r a m b mid s e hq hn tq0

theorem soTT (l l1 l2 l3 : List Ep)  (a m b mid s e : Nat) (hR : s < m ∧ m < e → Contract Try.prog 102 [.own 0, I ((s : Nat) : Int), I ((m : Nat) : Int), I ((e : Nat) : Int), .clo (.func 43) [] []] [.arr 6 ((l).map Ep.row)] (.tup []) [some (.arr 6 ((l1).map Ep.row))]) (hR0 : ¬ (s < m ∧ m < e) → l1 = l) (hS : a < s ∧ s < mid → Contract Try.prog 91 [.own 0, I ((a : Nat) : Int), I ((s : Nat) : Int), I ((mid : Nat) : Int), .clo (.func 43) [] []] [.arr 6 ((l1).map Ep.row)] (.tup []) [some (.arr 6 ((l2).map Ep.row))]) (hS0 : ¬ (a < s ∧ s < mid) → l2 = l1) (hT : mid < e ∧ e < b → Contract Try.prog 91 [.own 0, I ((mid : Nat) : Int), I ((e : Nat) : Int), I ((b : Nat) : Int), .clo (.func 43) [] []] [.arr 6 ((l2).map Ep.row)] (.tup []) [some (.arr 6 ((l3).map Ep.row))]) (hT0 : ¬ (mid < e ∧ e < b) → l3 = l2) : CodeC Try.prog 1 220 soT1B (soT (l)  a m b mid s e) .normal (soT (l3)  a m b mid s e) := by
  have k3 : CodeC Try.prog 1 220 soT3B (soT (l2)  a m b mid s e) .normal (soT (l3)  a m b mid s e) := by
    by_cases q : mid < e ∧ e < b
    · exact soT3go _ _  a m b mid s e q (hT q)
    · rw [hT0 q]; exact soT3no _  a m b mid s e q
  have k2 : CodeC Try.prog 1 220 soT2B (soT (l1)  a m b mid s e) .normal (soT (l3)  a m b mid s e) := by
    by_cases q : a < s ∧ s < mid
    · exact soT2go _ _ _  a m b mid s e q (hS q) k3
    · rw [hS0 q] at k3; exact soT2no _ _  a m b mid s e q k3
  by_cases q : s < m ∧ m < e
  · exact soT1go _ _ _  a m b mid s e q (hR q) k2
  · rw [hR0 q] at k2; exact soT1no _ _  a m b mid s e q k2

theorem soG0 (l r : List Ep)  (a m b mid s e : Nat) (hm : m ≠ a + 1) (hb : b ≠ m + 1) (ham : a < m) (hmb : m < b) (hs : b ≤ 1000000) (hmid : mid = (a + b) / 2) (hmg : ¬ (mid < m)) (he : e = mid + m - s) (hse : s ≤ mid + m) (hl : LoopC Try.prog 1 220 soZB (soZ (l)  a m b mid (mid + m) a m (mid + m - 1)) (.exit 8) (soZ (l)  a m b mid (mid + m) s s (mid + m - 1))) (ht : CodeC Try.prog 1 220 soT1B (soT (l)  a m b mid s e) .normal (soT (r)  a m b mid s e)) : Contract Try.prog 91 [.own 0, I (a : Int), I (m : Int), I (b : Int), .clo (.func 43) [] []] [.arr 6 ((l).map Ep.row)] (.tup []) [some (.arr 6 ((r).map Ep.row))] :=
 vcS hmix [.reg 0 [(2, [.be (I ((m - a : Nat) : Int))], none), (3, [], some false)], .reg 12 [(2, [.be (I ((b - m : Nat) : Int))], none), (3, [], some false)], .reg 24 [(5, [.be (I ((mid : Nat) : Int))], none)], .reg 25 [(2, [.be (I ((mid + m : Nat) : Int))], none)], .reg 27 [(2, [], some false)], .reg 32 [(1, [.be (I ((mid + m - 1 : Nat) : Int))], none)], .cut ⟨[0, 1, 2, 3, 4, 18, 19, 20, 21, 22], [(0, 0)], []⟩ (.exit 8) (soZ (l)  a m b mid (mid + m) s s (mid + m - 1)), .reg 38 [(2, [.be (I ((e : Nat) : Int))], none)], .tail 39 ⟨[0, 1, 2, 3, 4, 18, 20, 24], [(0, 0)], []⟩ .normal (soT (r)  a m b mid s e)] [] [⟨(by rw [i64_small (by simp; omega)]; simp; omega : IntKind.wrap IntKind.i64 (Int.ofNat m + -Int.ofNat a) = Int.ofNat (m - a))⟩, ⟨(by simp; omega : (Int.ofNat (m - a) == 1) = false)⟩, ⟨(by rw [i64_small (by simp; omega)]; simp; omega : IntKind.wrap IntKind.i64 (Int.ofNat b + -Int.ofNat m) = Int.ofNat (b - m))⟩, ⟨(by simp; omega : (Int.ofNat (b - m) == 1) = false)⟩, ⟨(by rw [hmid]; exact halfW (by omega) : IntKind.wrap IntKind.i64 (Int.fdiv (IntKind.wrap IntKind.u64 (IntKind.wrap IntKind.i64 (Int.ofNat (a + b)))) 2) = Int.ofNat mid)⟩, ⟨w64 (mid + m) (by omega)⟩, ⟨(by simp; omega : decide (Int.ofNat m > Int.ofNat mid) = false)⟩, ⟨(by rw [i64_small (by simp; omega)]; simp; omega : IntKind.wrap IntKind.i64 (Int.ofNat (mid + m) + (-1)) = Int.ofNat (mid + m - 1))⟩, ⟨hl⟩, ⟨(by rw [i64_small (by simp; omega)]; simp; omega : IntKind.wrap IntKind.i64 (Int.ofNat (mid + m) + -Int.ofNat s) = Int.ofNat e)⟩, ⟨ht⟩]

theorem soG1 (l r : List Ep)  (a m b mid s e : Nat) (hm : m ≠ a + 1) (hb : b ≠ m + 1) (ham : a < m) (hmb : m < b) (hs : b ≤ 1000000) (hmid : mid = (a + b) / 2) (hmg : (mid < m)) (he : e = mid + m - s) (hse : s ≤ mid + m) (hl : LoopC Try.prog 1 220 soZB (soZ (l)  a m b mid (mid + m) (mid + m - b) mid (mid + m - 1)) (.exit 8) (soZ (l)  a m b mid (mid + m) s s (mid + m - 1))) (ht : CodeC Try.prog 1 220 soT1B (soT (l)  a m b mid s e) .normal (soT (r)  a m b mid s e)) : Contract Try.prog 91 [.own 0, I (a : Int), I (m : Int), I (b : Int), .clo (.func 43) [] []] [.arr 6 ((l).map Ep.row)] (.tup []) [some (.arr 6 ((r).map Ep.row))] :=
 vcS hmix [.reg 0 [(2, [.be (I ((m - a : Nat) : Int))], none), (3, [], some false)], .reg 12 [(2, [.be (I ((b - m : Nat) : Int))], none), (3, [], some false)], .reg 24 [(5, [.be (I ((mid : Nat) : Int))], none)], .reg 25 [(2, [.be (I ((mid + m : Nat) : Int))], none)], .reg 27 [(2, [], some true)], .reg 28 [(2, [.be (I ((mid + m - b : Nat) : Int))], none)], .reg 32 [(1, [.be (I ((mid + m - 1 : Nat) : Int))], none)], .cut ⟨[0, 1, 2, 3, 4, 18, 19, 20, 21, 22], [(0, 0)], []⟩ (.exit 8) (soZ (l)  a m b mid (mid + m) s s (mid + m - 1)), .reg 38 [(2, [.be (I ((e : Nat) : Int))], none)], .tail 39 ⟨[0, 1, 2, 3, 4, 18, 20, 24], [(0, 0)], []⟩ .normal (soT (r)  a m b mid s e)] [] [⟨(by rw [i64_small (by simp; omega)]; simp; omega : IntKind.wrap IntKind.i64 (Int.ofNat m + -Int.ofNat a) = Int.ofNat (m - a))⟩, ⟨(by simp; omega : (Int.ofNat (m - a) == 1) = false)⟩, ⟨(by rw [i64_small (by simp; omega)]; simp; omega : IntKind.wrap IntKind.i64 (Int.ofNat b + -Int.ofNat m) = Int.ofNat (b - m))⟩, ⟨(by simp; omega : (Int.ofNat (b - m) == 1) = false)⟩, ⟨(by rw [hmid]; exact halfW (by omega) : IntKind.wrap IntKind.i64 (Int.fdiv (IntKind.wrap IntKind.u64 (IntKind.wrap IntKind.i64 (Int.ofNat (a + b)))) 2) = Int.ofNat mid)⟩, ⟨w64 (mid + m) (by omega)⟩, ⟨(by simp; omega : decide (Int.ofNat m > Int.ofNat mid) = true)⟩, ⟨(by rw [i64_small (by simp; omega)]; simp; omega : IntKind.wrap IntKind.i64 (Int.ofNat (mid + m) + -Int.ofNat b) = Int.ofNat (mid + m - b))⟩, ⟨(by rw [i64_small (by simp; omega)]; simp; omega : IntKind.wrap IntKind.i64 (Int.ofNat (mid + m) + (-1)) = Int.ofNat (mid + m - 1))⟩, ⟨hl⟩, ⟨(by rw [i64_small (by simp; omega)]; simp; omega : IntKind.wrap IntKind.i64 (Int.ofNat (mid + m) + -Int.ofNat s) = Int.ofNat e)⟩, ⟨ht⟩]

end Go.Proofs.Ytdomjccibhgbjaa

/- Parts of lists in order. -/
namespace Go.Proofs.Ytdomjccibhgbjaa
open Go
theorem all_take {α : Type} {B : List α} {r : Nat} {p : α → Prop} (h : ∀ k z, k < r → B[k]? = some z → p z) : ∀ y ∈ B.take r, p y := by
  intro y hy
  obtain ⟨k, hk⟩ := List.mem_iff_getElem?.1 hy
  rw [List.getElem?_take] at hk
  split at hk
  · exact h k y ‹_› hk
  · cases hk
theorem all_drop {α : Type} {B : List α} {r : Nat} {p : α → Prop} (h : ∀ k z, r ≤ k → B[k]? = some z → p z) : ∀ y ∈ B.drop r, p y := by
  intro y hy
  obtain ⟨k, hk⟩ := List.mem_iff_getElem?.1 hy
  rw [List.getElem?_drop] at hk
  exact h _ y (by omega) hk
theorem Swo.irrefl {α : Type} {lt : α → α → Bool} (ho : Swo lt) (a : α) : lt a a = false := by
  cases h : lt a a with
  | false => rfl
  | true => rw [ho.asymm h] at h; cases h
theorem Srt.le {α : Type} {lt : α → α → Bool} (ho : Swo lt) {B : List α} (h : Srt lt B) {i j : Nat} {x y : α} (hij : i ≤ j) (hi : B[i]? = some x) (hj : B[j]? = some y) : lt y x = false := by
  obtain ⟨i1, i2⟩ := List.getElem?_eq_some_iff.1 hi
  obtain ⟨j1, j2⟩ := List.getElem?_eq_some_iff.1 hj
  by_cases e : i = j
  · subst e
    rw [hi] at hj
    cases hj
    exact ho.irrefl _
  · have := List.pairwise_iff_getElem.1 h i j i1 j1 (by omega)
    rw [i2, j2] at this
    exact this
theorem Srt.take {α : Type} {lt : α → α → Bool} {B : List α} (h : Srt lt B) (n : Nat) : Srt lt (B.take n) := List.Pairwise.sublist (List.take_sublist _ _) h
theorem Srt.drop {α : Type} {lt : α → α → Bool} {B : List α} (h : Srt lt B) (n : Nat) : Srt lt (B.drop n) := List.Pairwise.sublist (List.drop_sublist _ _) h
/-- What stands in the first, and in the second, of two parts. -/
theorem at_fst {α : Type} {P A B Q : List α} {h : Nat} (h1 : P.length ≤ h) (h2 : h < P.length + A.length) : ∃ z, (P ++ A ++ B ++ Q)[h]? = some z ∧ A[h - P.length]? = some z := by
  refine ⟨A[h - P.length]'(by omega), ?_, List.getElem?_eq_getElem (by omega)⟩
  rw [List.append_assoc, List.append_assoc, List.getElem?_append_right h1, List.getElem?_append_left (by omega)]
  exact List.getElem?_eq_getElem (by omega)
theorem at_snd {α : Type} {P A B Q : List α} {h : Nat} (h1 : P.length + A.length ≤ h) (h2 : h < P.length + A.length + B.length) : ∃ z, (P ++ A ++ B ++ Q)[h]? = some z ∧ B[h - (P.length + A.length)]? = some z := by
  refine ⟨B[h - (P.length + A.length)]'(by omega), ?_, List.getElem?_eq_getElem (by omega)⟩
  rw [List.append_assoc, List.getElem?_append_right (by simp; omega), List.getElem?_append_left (by simp; omega)]
  simp only [List.length_append]
  exact List.getElem?_eq_getElem (by omega)
/-- The second list is the first one with every `bs` of it put in order. -/
inductive Chk {α : Type} (lt : α → α → Bool) (bs : Nat) : List α → List α → Prop
  | last (l : List α) : l.length < bs → Chk lt bs l (srt lt l)
  | cons (c l r : List α) : c.length = bs → Chk lt bs l r → Chk lt bs (c ++ l) (srt lt c ++ r)
theorem Chk.len {α : Type} {lt : α → α → Bool} {bs : Nat} {l r : List α} (h : Chk lt bs l r) : r.length = l.length := by
  induction h with
  | last l h => exact srt_len l
  | cons c l r hc h ih => simp [srt_len, ih]
theorem Chk.done {α : Type} {lt : α → α → Bool} {bs : Nat} {l r : List α} (h : Chk lt bs l r) (hl : l.length ≤ bs) : r = srt lt l := by
  cases h with
  | last l h => rfl
  | cons c l r hc h =>
    simp only [List.length_append] at hl
    have : l = [] := List.eq_nil_of_length_eq_zero (by omega)
    subst this
    have : r = [] := List.eq_nil_of_length_eq_zero h.len
    subst this
    simp
theorem Chk.two {α : Type} {lt : α → α → Bool} {bs : Nat} {l r : List α} (h : Chk lt bs l r) (hl : bs < l.length) : ∃ c l' r', l = c ++ l' ∧ r = srt lt c ++ r' ∧ c.length = bs ∧ Chk lt bs l' r' := by
  cases h with
  | last l h => omega
  | cons c l r hc h => exact ⟨c, l, r, rfl, rfl, hc, h⟩
end Go.Proofs.Ytdomjccibhgbjaa

/- sorting gleaning/api.Episode: merging in place, the law. -/
namespace Go.Proofs.Ytdomjccibhgbjaa
open E
set_option maxRecDepth 100000
set_option linter.unusedVariables false
set_option linter.unusedSimpArgs false

theorem soKin  (x : Ep) (R : List Ep) (i : Nat) : ∀ (B1 A : List Ep), i = A.length + B1.length + 1 → A.length + B1.length + R.length + 1 ≤ 1000000 →
    ∃ k, LoopC Try.prog 1 220 soKB (soK (A ++ x :: (B1 ++ R))  i A.length) (.exit 2) (soK (A ++ (B1 ++ x :: R))  i k)
  | [], A, hi, hs => ⟨A.length, by
      simp only [List.nil_append]
      exact LoopC.last (soKz _  i _ (by omega) (by simp at hi hs; omega) (by simp at hi; omega)) (by simp)⟩
  | y :: B1, A, hi, hs => by
    simp only [List.length_cons] at hi hs
    obtain ⟨k, hk⟩ := soKin  x R i B1 (A ++ [y]) (by simp; omega) (by simp; omega)
    refine ⟨k, ?_⟩
    have hr := soKgo A (B1 ++ R) x y  i A.length rfl (by omega) (by omega) (by simp; omega)
    rw [show (A ++ [y]).length = A.length + 1 by simp] at hk
    simp only [List.append_assoc, List.cons_append, List.nil_append] at hr hk ⊢
    exact LoopC.next hr hk
theorem soHin  (x : Ep) (A A2 : List Ep) : ∀ R : List Ep, A.length + A2.length + R.length + 1 ≤ 1000000 →
    ∃ k, LoopC Try.prog 1 220 soHB (soH (A ++ (A2 ++ x :: R))  A.length (A.length + A2.length)) (.exit 6) (soH (A ++ x :: (A2 ++ R))  A.length k) := by
  refine snoc_ind (P := fun A2 => ∀ R : List Ep, A.length + A2.length + R.length + 1 ≤ 1000000 →
    ∃ k, LoopC Try.prog 1 220 soHB (soH (A ++ (A2 ++ x :: R))  A.length (A.length + A2.length)) (.exit 6) (soH (A ++ x :: (A2 ++ R))  A.length k)) ?_ ?_ A2
  · intro R hs
    refine ⟨A.length, ?_⟩
    simp only [List.nil_append, List.length_nil, Nat.add_zero]
    exact LoopC.last (soHz _  _ _ (Nat.le_refl _)) (by simp)
  · intro A2 y ih R hs
    simp only [List.length_append, List.length_cons, List.length_nil] at hs ⊢
    obtain ⟨k, hk⟩ := ih (y :: R) (by simp; omega)
    refine ⟨k, ?_⟩
    have hr := soHgo (A ++ A2) R x y  A.length (A.length + (A2.length + 1)) (by simp; omega) (by omega) (by simp; omega)
    rw [show (A ++ A2).length = A.length + A2.length by simp] at hr
    simp only [List.append_assoc, List.cons_append, List.nil_append] at hr hk ⊢
    exact LoopC.next hr hk
/-- One before a part. -/
theorem soSym1  (ho : Swo (soLt )) (P : List Ep) (x : Ep) (B Q : List Ep) (a m b : Nat) (hB : Srt (soLt ) B) (ha : a = P.length) (hm : m = P.length + 1) (hb : b = P.length + 1 + B.length) (hs : P.length + 1 + B.length + Q.length ≤ 500000) :
    Contract Try.prog 91 [.own 0, I ((a : Nat) : Int), I ((m : Nat) : Int), I ((b : Nat) : Int), .clo (.func 43) [] []] [.arr 6 ((P ++ [x] ++ B ++ Q).map Ep.row)] (.tup []) [some (.arr 6 ((P ++ mrg (soLt ) [x] B ++ Q).map Ep.row))] := by
  have hat : ∀ h, m ≤ h → h < b → ∃ z, (P ++ [x] ++ B ++ Q)[h]? = some z ∧ B[h - m]? = some z := fun h h1 h2 => by
    have := at_snd (P := P) (A := [x]) (B := B) (Q := Q) (h := h) (by simp; omega) (by simp; omega)
    simpa [← hm] using this
  have hx : (P ++ [x] ++ B ++ Q)[a]? = some x := by subst ha; simp
  obtain ⟨r, r1, r2, r3, r4, r5⟩ := LoopC.half (fun h => (B[h - m]?).elim false (fun z => (soLt ) z x)) (fun i j => soX (P ++ [x] ++ B ++ Q)  a m b i j) (e := .exit 0) (by simp) m b
    (fun i j h1 h2 h3 hp => by
      obtain ⟨z, z1, z2⟩ := hat j (by omega) h3
      obtain ⟨w, w1, w2⟩ := hat i h1 (by omega)
      simp only [z2, w2, Option.elim_some] at hp ⊢
      exact ho.lt_of_le_lt (Srt.le ho hB (by omega) w2 z2) hp)
    (fun i j h1 h2 h3 hp => by
      obtain ⟨z, z1, z2⟩ := hat ((i + j) / 2) (by omega) (by omega)
      simp only [z2, Option.elim_some] at hp
      exact soXgo _  a m b i j z x h2 (by omega) z1 hx hp)
    (fun i j h1 h2 h3 hp => by
      obtain ⟨z, z1, z2⟩ := hat ((i + j) / 2) (by omega) (by omega)
      simp only [z2, Option.elim_some] at hp
      exact soXba _  a m b i j z x h2 (by omega) z1 hx hp)
    (fun i h1 h2 => soXz _  a m b i i (Nat.le_refl _)) (by omega)
  obtain ⟨B1, B2, hB12, lB1, t1, t2⟩ : ∃ B1 B2, B = B1 ++ B2 ∧ B1.length = r - m ∧ (∀ y ∈ B1, (soLt ) y x = true) ∧ (∀ y ∈ B2, (soLt ) y x = false) :=
    ⟨B.take (r - m), B.drop (r - m), (List.take_append_drop _ _).symm, (by rw [List.length_take]; omega), all_take (fun k z hk hz => by
      have := r3 (m + k) (by omega) (by omega)
      simp only [show m + k - m = k by omega, hz, Option.elim_some] at this
      exact this), all_drop (fun k z hk hz => by
      have hk' := (List.getElem?_eq_some_iff.1 hz).1
      have := r4 (m + k) (by omega) (by omega)
      simp only [show m + k - m = k by omega, hz, Option.elim_some] at this
      exact this)⟩
  subst hB12
  simp only [List.length_append] at hb hs
  obtain ⟨k, hk⟩ := soKin  x (B2 ++ Q) r B1 P (by omega) (by simp; omega)
  rw [mrg_one_l ho B1 x B2 t1 t2]
  rw [← ha] at hk
  simp only [List.append_assoc, List.cons_append, List.nil_append] at r5 hk ⊢
  exact soS1 _ _  a m b r k (by omega) (by omega) (by omega) r5 hk
/-- One behind a part. -/
theorem soSym2  (ho : Swo (soLt )) (P : List Ep) (y : Ep) (A Q : List Ep) (a m b : Nat) (hA : Srt (soLt ) A) (h1 : A.length ≠ 1) (ha : a = P.length) (hm : m = P.length + A.length) (hb : b = P.length + A.length + 1) (hs : P.length + 1 + A.length + Q.length ≤ 500000) :
    Contract Try.prog 91 [.own 0, I ((a : Nat) : Int), I ((m : Nat) : Int), I ((b : Nat) : Int), .clo (.func 43) [] []] [.arr 6 ((P ++ A ++ [y] ++ Q).map Ep.row)] (.tup []) [some (.arr 6 ((P ++ mrg (soLt ) A [y] ++ Q).map Ep.row))] := by
  have hat : ∀ h, a ≤ h → h < m → ∃ z, (P ++ A ++ [y] ++ Q)[h]? = some z ∧ A[h - a]? = some z := fun h h1 h2 => by
    have := at_fst (P := P) (A := A) (B := [y]) (Q := Q) (h := h) (by omega) (by omega)
    rwa [← ha] at this
  have hy : (P ++ A ++ [y] ++ Q)[m]? = some y := by subst hm; simp
  obtain ⟨r, r1, r2, r3, r4, r5⟩ := LoopC.half (fun h => (A[h - a]?).elim false (fun z => !((soLt ) y z))) (fun i j => soY (P ++ A ++ [y] ++ Q)  a m b i j) (e := .exit 4) (by simp) a m
    (fun i j h1 h2 h3 hp => by
      obtain ⟨z, z1, z2⟩ := hat j (by omega) h3
      obtain ⟨w, w1, w2⟩ := hat i h1 (by omega)
      simp only [z2, w2, Option.elim_some, Bool.not_eq_true'] at hp ⊢
      exact ho.trans (Srt.le ho hA (by omega) w2 z2) hp)
    (fun i j h1 h2 h3 hp => by
      obtain ⟨z, z1, z2⟩ := hat ((i + j) / 2) (by omega) (by omega)
      simp only [z2, Option.elim_some, Bool.not_eq_true'] at hp
      exact soYgo _  a m b i j y z h2 (by omega) hy z1 hp)
    (fun i j h1 h2 h3 hp => by
      obtain ⟨z, z1, z2⟩ := hat ((i + j) / 2) (by omega) (by omega)
      simp only [z2, Option.elim_some, Bool.not_eq_false'] at hp
      exact soYba _  a m b i j y z h2 (by omega) hy z1 hp)
    (fun i h1 h2 => soYz _  a m b i i (Nat.le_refl _)) (by omega)
  obtain ⟨A1, A2, hA12, lA1, t1, t2⟩ : ∃ A1 A2, A = A1 ++ A2 ∧ A1.length = r - a ∧ (∀ z ∈ A1, (soLt ) y z = false) ∧ (∀ z ∈ A2, (soLt ) y z = true) :=
    ⟨A.take (r - a), A.drop (r - a), (List.take_append_drop _ _).symm, (by rw [List.length_take]; omega), all_take (fun k z hk hz => by
      have := r3 (a + k) (by omega) (by omega)
      simp only [show a + k - a = k by omega, hz, Option.elim_some, Bool.not_eq_true'] at this
      exact this), all_drop (fun k z hk hz => by
      have hk' := (List.getElem?_eq_some_iff.1 hz).1
      have := r4 (a + k) (by omega) (by omega)
      simp only [show a + k - a = k by omega, hz, Option.elim_some, Bool.not_eq_false'] at this
      exact this)⟩
  subst hA12
  simp only [List.length_append] at hb hs hm h1
  obtain ⟨k, hk⟩ := soHin  y (P ++ A1) A2 Q (by simp; omega)
  rw [mrg_one ho A1 y A2 t1 t2]
  rw [show (P ++ A1).length = r by simp; omega, show r + A2.length = m by omega] at hk
  simp only [List.append_assoc, List.cons_append, List.nil_append] at r5 hk ⊢
  exact soS2 _ _  a m b r k (by omega) (by omega) (by omega) (by omega) r5 hk
theorem soG (l l1 l2 l3 : List Ep)  (a m b mid s e lo hi : Nat) (hm : m ≠ a + 1) (hb : b ≠ m + 1) (ham : a < m) (hmb : m < b) (hs : b ≤ 500000) (hmid : mid = (a + b) / 2) (he : e = mid + m - s) (hse : s ≤ mid + m) (hL : mid < m → lo = mid + m - b ∧ hi = mid) (hM : ¬ mid < m → lo = a ∧ hi = m) (hl : LoopC Try.prog 1 220 soZB (soZ l  a m b mid (mid + m) lo hi (mid + m - 1)) (.exit 8) (soZ l  a m b mid (mid + m) s s (mid + m - 1))) (hR : s < m ∧ m < e → Contract Try.prog 102 [.own 0, I ((s : Nat) : Int), I ((m : Nat) : Int), I ((e : Nat) : Int), .clo (.func 43) [] []] [.arr 6 ((l).map Ep.row)] (.tup []) [some (.arr 6 ((l1).map Ep.row))]) (hR0 : ¬ (s < m ∧ m < e) → l1 = l) (hS : a < s ∧ s < mid → Contract Try.prog 91 [.own 0, I ((a : Nat) : Int), I ((s : Nat) : Int), I ((mid : Nat) : Int), .clo (.func 43) [] []] [.arr 6 ((l1).map Ep.row)] (.tup []) [some (.arr 6 ((l2).map Ep.row))]) (hS0 : ¬ (a < s ∧ s < mid) → l2 = l1) (hT : mid < e ∧ e < b → Contract Try.prog 91 [.own 0, I ((mid : Nat) : Int), I ((e : Nat) : Int), I ((b : Nat) : Int), .clo (.func 43) [] []] [.arr 6 ((l2).map Ep.row)] (.tup []) [some (.arr 6 ((l3).map Ep.row))]) (hT0 : ¬ (mid < e ∧ e < b) → l3 = l2) :
    Contract Try.prog 91 [.own 0, I ((a : Nat) : Int), I ((m : Nat) : Int), I ((b : Nat) : Int), .clo (.func 43) [] []] [.arr 6 ((l).map Ep.row)] (.tup []) [some (.arr 6 ((l3).map Ep.row))] := by
  have ht := soTT l l1 l2 l3  a m b mid s e hR hR0 hS hS0 hT hT0
  by_cases hmg : mid < m
  · obtain ⟨g1, g2⟩ := hL hmg
    rw [g1, g2] at hl
    exact soG1 _ _  a m b mid s e hm hb ham hmb (by omega) hmid hmg he hse hl ht
  · obtain ⟨g1, g2⟩ := hM hmg
    rw [g1, g2] at hl
    exact soG0 _ _  a m b mid s e hm hb ham hmb (by omega) hmid hmg he hse hl ht
/-- Two parts in order are merged in place. -/
theorem soSym  (ho : Swo (soLt )) : ∀ (d : Nat) (P A B Q : List Ep) (a m b : Nat), A.length + B.length ≤ d → 0 < A.length → 0 < B.length → Srt (soLt ) A → Srt (soLt ) B → a = P.length → m = P.length + A.length → b = P.length + A.length + B.length → P.length + A.length + B.length + Q.length ≤ 500000 →
    Contract Try.prog 91 [.own 0, I ((a : Nat) : Int), I ((m : Nat) : Int), I ((b : Nat) : Int), .clo (.func 43) [] []] [.arr 6 ((P ++ A ++ B ++ Q).map Ep.row)] (.tup []) [some (.arr 6 ((P ++ mrg (soLt ) A B ++ Q).map Ep.row))]
  | 0, P, A, B, Q, a, m, b, hd, hA, _, _, _, _, _, _, _ => by omega
  | d + 1, P, A, B, Q, a, m, b, hd, hA, hB, sA, sB, ha, hm, hb, hs => by
    by_cases c1 : A.length = 1
    · obtain ⟨x, rfl⟩ := List.length_eq_one_iff.1 c1
      exact soSym1  ho P x B Q a m b sB ha (by simpa using hm) (by simpa using hb) (by simpa using hs)
    by_cases c2 : B.length = 1
    · obtain ⟨y, rfl⟩ := List.length_eq_one_iff.1 c2
      exact soSym2  ho P y A Q a m b sA c1 ha hm (by simpa using hb) (by simp at hs; omega)
    have hfst : ∀ h, a ≤ h → h < m → ∃ z, (P ++ A ++ B ++ Q)[h]? = some z ∧ A[h - a]? = some z := fun h h1 h2 => by
      have := at_fst (P := P) (A := A) (B := B) (Q := Q) (h := h) (by omega) (by omega)
      rwa [← ha] at this
    have hsnd : ∀ h, m ≤ h → h < b → ∃ z, (P ++ A ++ B ++ Q)[h]? = some z ∧ B[h - m]? = some z := fun h h1 h2 => by
      have := at_snd (P := P) (A := A) (B := B) (Q := Q) (h := h) (by omega) (by omega)
      rwa [← hm] at this
    generalize hmid : (a + b) / 2 = mid
    obtain ⟨lo, hi, hL, hM, b1, b2, b3, b4, b5⟩ : ∃ lo hi : Nat, (mid < m → lo = mid + m - b ∧ hi = mid) ∧ (¬ mid < m → lo = a ∧ hi = m) ∧ a ≤ lo ∧ lo ≤ hi ∧ hi ≤ m ∧ m + hi ≤ mid + m ∧ mid + m ≤ lo + b := by
      by_cases hmg : mid < m
      · exact ⟨mid + m - b, mid, fun _ => ⟨rfl, rfl⟩, fun h => absurd hmg h, by omega, by omega, by omega, by omega, by omega⟩
      · exact ⟨a, m, fun h => absurd h hmg, fun _ => ⟨rfl, rfl⟩, by omega, by omega, by omega, by omega, by omega⟩
    obtain ⟨s, r1, r2, r3, r4, r5⟩ := LoopC.half (fun h => (A[h - a]?).elim false (fun x => (B[mid + m - 1 - h - m]?).elim false (fun y => !((soLt ) y x)))) (fun i j => soZ (P ++ A ++ B ++ Q)  a m b mid (mid + m) i j (mid + m - 1)) (e := .exit 8) (by simp) lo hi
      (fun i j h1 h2 h3 hp => by
        obtain ⟨x, x1, x2⟩ := hfst j (by omega) (by omega)
        obtain ⟨y, y1, y2⟩ := hsnd (mid + m - 1 - j) (by omega) (by omega)
        obtain ⟨z, z1, z2⟩ := hfst i (by omega) (by omega)
        obtain ⟨w, w1, w2⟩ := hsnd (mid + m - 1 - i) (by omega) (by omega)
        simp only [x2, y2, z2, w2, Option.elim_some, Bool.not_eq_true'] at hp ⊢
        exact ho.trans (ho.trans (Srt.le ho sA (by omega) z2 x2) hp) (Srt.le ho sB (by omega) y2 w2))
      (fun i j h1 h2 h3 hp => by
        obtain ⟨x, x1, x2⟩ := hfst ((i + j) / 2) (by omega) (by omega)
        obtain ⟨y, y1, y2⟩ := hsnd (mid + m - 1 - (i + j) / 2) (by omega) (by omega)
        simp only [x2, y2, Option.elim_some, Bool.not_eq_true'] at hp
        exact soZgo _  a m b mid (mid + m) i j (mid + m - 1) y x h2 (by omega) (by omega) (by omega) y1 x1 hp)
      (fun i j h1 h2 h3 hp => by
        obtain ⟨x, x1, x2⟩ := hfst ((i + j) / 2) (by omega) (by omega)
        obtain ⟨y, y1, y2⟩ := hsnd (mid + m - 1 - (i + j) / 2) (by omega) (by omega)
        simp only [x2, y2, Option.elim_some, Bool.not_eq_false'] at hp
        exact soZba _  a m b mid (mid + m) i j (mid + m - 1) y x h2 (by omega) (by omega) (by omega) y1 x1 hp)
      (fun i h1 h2 => soZz _  a m b mid (mid + m) i i (mid + m - 1) (Nat.le_refl _)) b2
    have k1 : ∀ i j x y, A[i]? = some x → B[j]? = some y → a + i < s → mid + m - s ≤ m + j → (soLt ) y x = false := fun i j x y hx hy g1 g2 => by
      have hj := (List.getElem?_eq_some_iff.1 hy).1
      by_cases hlo : s = lo
      · by_cases hmg : mid < m
        · have := hL hmg; omega
        · have := hM hmg; omega
      obtain ⟨x', x1, x2⟩ := hfst (s - 1) (by omega) (by omega)
      obtain ⟨y', y1, y2⟩ := hsnd (mid + m - 1 - (s - 1)) (by omega) (by omega)
      have hp := r3 (s - 1) (by omega) (by omega)
      simp only [x2, y2, Option.elim_some, Bool.not_eq_true'] at hp
      exact ho.trans (ho.trans (Srt.le ho sA (by omega) hx x2) hp) (Srt.le ho sB (by omega) y2 hy)
    have k2 : ∀ i j x y, A[i]? = some x → B[j]? = some y → s ≤ a + i → m + j < mid + m - s → (soLt ) y x = true := fun i j x y hx hy g1 g2 => by
      have hi' := (List.getElem?_eq_some_iff.1 hx).1
      by_cases hlo : s = hi
      · by_cases hmg : mid < m
        · have := hL hmg; omega
        · have := hM hmg; omega
      obtain ⟨x', x1, x2⟩ := hfst s (by omega) (by omega)
      obtain ⟨y', y1, y2⟩ := hsnd (mid + m - 1 - s) (by omega) (by omega)
      have hp := r4 s (by omega) (by omega)
      simp only [x2, y2, Option.elim_some, Bool.not_eq_false'] at hp
      exact ho.lt_of_lt_le (ho.lt_of_le_lt (Srt.le ho sB (by omega) hy y2) hp) (Srt.le ho sA (by omega) x2 hx)
    obtain ⟨A1, A2, B1, B2, hA12, hB12, lA1, lB1, sA1, sA2, sB1, sB2, t1, t2⟩ : ∃ A1 A2 B1 B2, A = A1 ++ A2 ∧ B = B1 ++ B2 ∧ A1.length = s - a ∧ B1.length = mid - s ∧ Srt (soLt ) A1 ∧ Srt (soLt ) A2 ∧ Srt (soLt ) B1 ∧ Srt (soLt ) B2 ∧ (∀ x ∈ A1, ∀ y ∈ B2, (soLt ) y x = false) ∧ (∀ y ∈ B1, ∀ x ∈ A2, (soLt ) y x = true) :=
      ⟨A.take (s - a), A.drop (s - a), B.take (mid - s), B.drop (mid - s), (List.take_append_drop _ _).symm, (List.take_append_drop _ _).symm, (by rw [List.length_take]; omega), (by rw [List.length_take]; omega),
        sA.take _, sA.drop _, sB.take _, sB.drop _,
        all_take (fun i x hi hx => all_drop (fun j y hj hy => k1 i j x y hx hy (by omega) (by omega))),
        all_take (fun j y hj hy => all_drop (fun i x hi hx => k2 i j x y hx hy (by omega) (by omega)))⟩
    subst hA12 hB12
    simp only [List.length_append] at hd hA hB hm hb hs c1 c2
    rw [mrg_append ho A1 B1 A2 B2 t1 t2]
    refine soG _ (P ++ A1 ++ B1 ++ A2 ++ B2 ++ Q) (P ++ mrg (soLt ) A1 B1 ++ A2 ++ B2 ++ Q) _  a m b mid s (mid + m - s) lo hi (by omega) (by omega) (by omega) (by omega) (by omega) hmid.symm rfl (by omega) hL hM r5 ?_ ?_ ?_ ?_ ?_ ?_
    · intro q
      have := soRot  (P ++ A1) A2 B1 (B2 ++ Q) s m (mid + m - s) (by omega) (by omega) (by simp; omega) (by simp; omega) (by simp; omega) (by simp; omega)
      simp only [List.append_assoc, List.cons_append, List.nil_append] at this ⊢
      exact this
    · intro q
      have : A2 = [] ∨ B1 = [] := by
        rcases Nat.eq_zero_or_pos A2.length with h | h
        · exact .inl (List.eq_nil_of_length_eq_zero h)
        · rcases Nat.eq_zero_or_pos B1.length with h' | h'
          · exact .inr (List.eq_nil_of_length_eq_zero h')
          · exact absurd ⟨by omega, by omega⟩ q
      rcases this with rfl | rfl <;> simp
    · intro q
      have := soSym  ho d P A1 B1 (A2 ++ B2 ++ Q) a s mid (by omega) (by omega) (by omega) sA1 sB1 ha (by omega) (by omega) (by simp; omega)
      simp only [List.append_assoc, List.cons_append, List.nil_append] at this ⊢
      exact this
    · intro q
      have : A1 = [] ∨ B1 = [] := by
        rcases Nat.eq_zero_or_pos A1.length with h | h
        · exact .inl (List.eq_nil_of_length_eq_zero h)
        · rcases Nat.eq_zero_or_pos B1.length with h' | h'
          · exact .inr (List.eq_nil_of_length_eq_zero h')
          · exact absurd ⟨by omega, by omega⟩ q
      rcases this with rfl | rfl
      · rw [mrg_nil_l]; simp
      · rw [mrg_nil_r]; simp
    · intro q
      have := soSym  ho d (P ++ mrg (soLt ) A1 B1) A2 B2 Q mid (mid + m - s) b (by omega) (by omega) (by omega) sA2 sB2 (by simp [mrg_len]; omega) (by simp [mrg_len]; omega) (by simp [mrg_len]; omega) (by simp [mrg_len]; omega)
      simp only [List.append_assoc, List.cons_append, List.nil_append] at this ⊢
      exact this
    · intro q
      have : A2 = [] ∨ B2 = [] := by
        rcases Nat.eq_zero_or_pos A2.length with h | h
        · exact .inl (List.eq_nil_of_length_eq_zero h)
        · rcases Nat.eq_zero_or_pos B2.length with h' | h'
          · exact .inr (List.eq_nil_of_length_eq_zero h')
          · exact absurd ⟨by omega, by omega⟩ q
      rcases this with rfl | rfl
      · rw [mrg_nil_l]; simp
      · rw [mrg_nil_r]; simp
end Go.Proofs.Ytdomjccibhgbjaa

/- sorting gleaning/api.Episode: blocks, and twice as large blocks. -/
namespace Go.Proofs.Ytdomjccibhgbjaa
open E
set_option maxRecDepth 100000
set_option linter.unusedVariables false
set_option linter.unusedSimpArgs false

def soA (l : List Ep)  (n bs a b : Nat) : SL := ⟨[(0, .own 0), (1, I (n : Int)), (2, .clo (.func 43) [] []), (6, I (bs : Int)), (7, I (a : Int)), (8, I (b : Int))], [(0, .arr 6 (l.map Ep.row))], [0, 0]⟩
def soB (l : List Ep)  (n bs : Nat) : SL := ⟨[(0, .own 0), (1, I (n : Int)), (2, .clo (.func 43) [] []), (6, I (bs : Int))], [(0, .arr 6 (l.map Ep.row))], [0, 0]⟩
def soC (l : List Ep)  (n bs a b : Nat) : SL := ⟨[(0, .own 0), (1, I (n : Int)), (2, .clo (.func 43) [] []), (6, I (bs : Int)), (7, I (a : Int)), (8, I (b : Int))], [(0, .arr 6 (l.map Ep.row))], [0, 0]⟩
noncomputable def soAB : Code := codeAt Try.prog 70 [true, true, false, false, false]

noncomputable def soBB : Code := codeAt Try.prog 70 [true, true, true, true, false, false]

noncomputable def soCB : Code := codeAt Try.prog 70 [true, true, true, true, false, false, true, false, true, false, false, false]

theorem soAgo (l l' : List Ep)  (n bs a b : Nat) (hn : n ≤ 500000) (hs : bs ≤ 1000000) (hb : b ≤ n) (hc : Contract Try.prog 90 [.own 0, I ((a : Nat) : Int), I ((b : Nat) : Int), .clo (.func 43) [] []] [.arr 6 ((l).map Ep.row)] (.tup []) [some (.arr 6 ((l').map Ep.row))])  : CodeC Try.prog 1 63 soAB (soA (l)  n bs a b) .normal (soA (l')  n bs b (b + bs)) :=
 runS hmix [.reg 2 [(2, [], some true)], .reg 3 [(4, [.call [0] [] (.tup []) [some (.arr 6 ((l').map Ep.row))]], none)], .reg 5 [(2, [.be (I ((b + bs : Nat) : Int))], none)]] ⟨[0, 1, 2, 6, 7, 8], [(0, 0)], []⟩ [⟨(by simp; omega : decide (Int.ofNat b ≤ Int.ofNat n) = true)⟩, ⟨(by omega : Contract Try.prog 90 [.own 0, I (Int.ofNat a), I (Int.ofNat b), V.clo (Fn.func 43) [] []] [.arr 6 (List.map Ep.row l)] (.tup []) [some (.arr 6 (List.map Ep.row l'))])⟩, ⟨w64 (b + bs) (by omega)⟩]

theorem soAz (l : List Ep)  (n bs a b : Nat) (hb : n < b)  : CodeC Try.prog 1 63 soAB (soA (l)  n bs a b) (.exit 0) (soA (l)  n bs a b) :=
 runS hmix [.reg 2 [(2, [], some false)]] ⟨[0, 1, 2, 6, 7, 8], [(0, 0)], []⟩ [⟨(by simp; omega : decide (Int.ofNat b ≤ Int.ofNat n) = false)⟩]

theorem soCgo (l l' : List Ep)  (n bs a b : Nat) (hn : n ≤ 500000) (hs : bs ≤ 1000000) (hb : b ≤ n) (ha : a ≤ n) (hc : Contract Try.prog 91 [.own 0, I ((a : Nat) : Int), I ((a + bs : Nat) : Int), I ((b : Nat) : Int), .clo (.func 43) [] []] [.arr 6 ((l).map Ep.row)] (.tup []) [some (.arr 6 ((l').map Ep.row))])  : CodeC Try.prog 1 63 soCB (soC (l)  n bs a b) .normal (soC (l')  n bs b (b + 2 * bs)) :=
 runS hmix [.reg 9 [(2, [], some true)], .reg 10 [(4, [.be (I ((a + bs : Nat) : Int))], none), (7, [.call [0] [] (.tup []) [some (.arr 6 ((l').map Ep.row))]], none)], .reg 12 [(2, [.be (I ((2 * bs : Nat) : Int))], none), (3, [.be (I ((b + 2 * bs : Nat) : Int))], none)]] ⟨[0, 1, 2, 6, 7, 8], [(0, 0)], []⟩ [⟨(by simp; omega : decide (Int.ofNat b ≤ Int.ofNat n) = true)⟩, ⟨w64 (a + bs) (by omega)⟩, ⟨(by omega : Contract Try.prog 91 [.own 0, I (Int.ofNat a), I (Int.ofNat (a + bs)), I (Int.ofNat b), V.clo (Fn.func 43) [] []] [.arr 6 (List.map Ep.row l)] (.tup []) [some (.arr 6 (List.map Ep.row l'))])⟩, ⟨w64 (2 * bs) (by omega)⟩, ⟨w64 (b + 2 * bs) (by omega)⟩]

theorem soCz (l : List Ep)  (n bs a b : Nat) (hb : n < b)  : CodeC Try.prog 1 63 soCB (soC (l)  n bs a b) (.exit 4) (soC (l)  n bs a b) :=
 runS hmix [.reg 9 [(2, [], some false)]] ⟨[0, 1, 2, 6, 7, 8], [(0, 0)], []⟩ [⟨(by simp; omega : decide (Int.ofNat b ≤ Int.ofNat n) = false)⟩]

theorem soBgo (l l' l2 : List Ep)  (n bs a b : Nat) (hn : n ≤ 500000) (hb : bs < n) (ha : a ≤ n) (hm : a + bs < n) (hl : LoopC Try.prog 1 63 soCB (soC (l)  n bs 0 (2 * bs)) (.exit 4) (soC (l')  n bs a b)) (hc : Contract Try.prog 91 [.own 0, I ((a : Nat) : Int), I ((a + bs : Nat) : Int), I ((n : Nat) : Int), .clo (.func 43) [] []] [.arr 6 ((l').map Ep.row)] (.tup []) [some (.arr 6 ((l2).map Ep.row))])  : CodeC Try.prog 1 63 soBB (soB (l)  n bs) .normal (soB (l2)  n (2 * bs)) :=
 runS hmix [.reg 7 [(2, [], some true)], .reg 8 [(1, [.be (I ((2 * bs : Nat) : Int))], none)], .cut ⟨[0, 1, 2, 6, 7, 8], [(0, 0)], []⟩ (.exit 4) (soC (l')  n bs a b), .reg 13 [(2, [.be (I ((a + bs : Nat) : Int))], none)], .reg 14 [(2, [], some true)], .reg 15 [(5, [.call [0] [] (.tup []) [some (.arr 6 ((l2).map Ep.row))]], none)], .reg 16 [(1, [.be (I ((2 * bs : Nat) : Int))], none)]] ⟨[0, 1, 2, 6], [(0, 0)], []⟩ [⟨(by simp; omega : decide (Int.ofNat bs < Int.ofNat n) = true)⟩, ⟨w64 (2 * bs) (by omega)⟩, ⟨hl⟩, ⟨w64 (a + bs) (by omega)⟩, ⟨(by simp; omega : decide (Int.ofNat (a + bs) < Int.ofNat n) = true)⟩, ⟨(by omega : Contract Try.prog 91 [.own 0, I (Int.ofNat a), I (Int.ofNat (a + bs)), I (Int.ofNat n), V.clo (Fn.func 43) [] []] [.arr 6 (List.map Ep.row l')] (.tup []) [some (.arr 6 (List.map Ep.row l2))])⟩, ⟨(by rw [i64_small (by simp; omega)]; simp; omega : IntKind.wrap IntKind.i64 (Int.ofNat (bs * 2)) = Int.ofNat (2 * bs))⟩]

theorem soBno (l l' : List Ep)  (n bs a b : Nat) (hn : n ≤ 500000) (hb : bs < n) (ha : a ≤ n) (hm : n ≤ a + bs) (hl : LoopC Try.prog 1 63 soCB (soC (l)  n bs 0 (2 * bs)) (.exit 4) (soC (l')  n bs a b))  : CodeC Try.prog 1 63 soBB (soB (l)  n bs) .normal (soB (l')  n (2 * bs)) :=
 runS hmix [.reg 7 [(2, [], some true)], .reg 8 [(1, [.be (I ((2 * bs : Nat) : Int))], none)], .cut ⟨[0, 1, 2, 6, 7, 8], [(0, 0)], []⟩ (.exit 4) (soC (l')  n bs a b), .reg 13 [(2, [.be (I ((a + bs : Nat) : Int))], none)], .reg 14 [(2, [], some false)], .reg 16 [(1, [.be (I ((2 * bs : Nat) : Int))], none)]] ⟨[0, 1, 2, 6], [(0, 0)], []⟩ [⟨(by simp; omega : decide (Int.ofNat bs < Int.ofNat n) = true)⟩, ⟨w64 (2 * bs) (by omega)⟩, ⟨hl⟩, ⟨w64 (a + bs) (by omega)⟩, ⟨(by simp; omega : decide (Int.ofNat (a + bs) < Int.ofNat n) = false)⟩, ⟨(by rw [i64_small (by simp; omega)]; simp; omega : IntKind.wrap IntKind.i64 (Int.ofNat (bs * 2)) = Int.ofNat (2 * bs))⟩]

theorem soBz (l : List Ep)  (n bs : Nat) (hb : n ≤ bs)  : CodeC Try.prog 1 63 soBB (soB (l)  n bs) (.exit 2) (soB (l)  n bs) :=
 runS hmix [.reg 7 [(2, [], some false)]] ⟨[0, 1, 2, 6], [(0, 0)], []⟩ [⟨(by simp; omega : decide (Int.ofNat bs < Int.ofNat n) = false)⟩]

theorem soStb (l l' l2 l3 : List Ep)  (n a b bs : Nat) (hl : LoopC Try.prog 1 63 soAB (soA (l)  n 20 0 20) (.exit 0) (soA (l')  n 20 a b)) (hc : Contract Try.prog 90 [.own 0, I ((a : Nat) : Int), I ((n : Nat) : Int), .clo (.func 43) [] []] [.arr 6 ((l').map Ep.row)] (.tup []) [some (.arr 6 ((l2).map Ep.row))]) (hk : LoopC Try.prog 1 63 soBB (soB (l2)  n 20) (.exit 2) (soB (l3)  n bs)) : Contract Try.prog 70 [.own 0, I (n : Int), .clo (.func 43) [] []] [.arr 6 ((l).map Ep.row)] (.tup []) [some (.arr 6 ((l3).map Ep.row))] :=
 vcS hmix [.cut ⟨[0, 1, 2, 6, 7, 8], [(0, 0)], []⟩ (.exit 0) (soA (l')  n 20 a b), .reg 6 [(4, [.call [0] [] (.tup []) [some (.arr 6 ((l2).map Ep.row))]], none)], .cut ⟨[0, 1, 2, 6], [(0, 0)], []⟩ (.exit 2) (soB (l3)  n bs)] [] [⟨hl⟩, ⟨(by omega : Contract Try.prog 90 [.own 0, I (Int.ofNat a), I (Int.ofNat n), V.clo (Fn.func 43) [] []] [.arr 6 (List.map Ep.row l')] (.tup []) [some (.arr 6 (List.map Ep.row l2))])⟩, ⟨hk⟩]

theorem soSor (l l' : List Ep)  (hc : Contract Try.prog 70 [.own 0, I (l.length : Int), .clo (.func 43) [] []] [.arr 6 ((l).map Ep.row)] (.tup []) [some (.arr 6 ((l').map Ep.row))]) : Contract Try.prog 42 [.own 0, .clo (.func 43) [] []] [.arr 6 ((l).map Ep.row)] (.tup []) [some (.arr 6 ((l').map Ep.row))] :=
 vcS hmix [.reg 0 [(2, [.be (I ((l.length : Nat) : Int))], none), (4, [.call [0] [] (.tup []) [some (.arr 6 ((l').map Ep.row))]], none)]] [] [⟨lenm Ep.row l⟩, ⟨(by omega : Contract Try.prog 70 [.own 0, I (Int.ofNat (List.length l)), V.clo (Fn.func 43) [] []] [.arr 6 (List.map Ep.row l)] (.tup []) [some (.arr 6 (List.map Ep.row l'))])⟩]

end Go.Proofs.Ytdomjccibhgbjaa

/- sorting gleaning/api.Episode: the whole. -/
namespace Go.Proofs.Ytdomjccibhgbjaa
open E
set_option maxRecDepth 100000
set_option linter.unusedVariables false
set_option linter.unusedSimpArgs false

theorem soAin  (ho : Swo (soLt )) (n : Nat) (hn : n ≤ 500000) : ∀ (d : Nat) (P T : List Ep), T.length ≤ d → n = P.length + T.length →
    ∃ R1 T1, T1.length < 20 ∧ R1.length + T1.length = T.length ∧ Chk (soLt ) 20 T (R1 ++ srt (soLt ) T1) ∧ LoopC Try.prog 1 63 soAB (soA (P ++ T)  n 20 P.length (P.length + 20)) (.exit 0) (soA (P ++ R1 ++ T1)  n 20 (P.length + R1.length) (P.length + R1.length + 20)) := by
  intro d
  induction d with
  | zero =>
    intro P T hd hT
    have : T = [] := List.eq_nil_of_length_eq_zero (by omega)
    subst this
    refine ⟨[], [], by simp, rfl, Chk.last [] (by simp), ?_⟩
    simp only [List.append_nil, List.length_nil, Nat.add_zero] at hT ⊢
    exact LoopC.last (soAz _  n 20 _ _ (by omega)) (by simp)
  | succ d ih =>
    intro P T hd hT
    by_cases h : T.length < 20
    · refine ⟨[], T, h, by simp, Chk.last T h, ?_⟩
      simp only [List.append_nil, List.length_nil, Nat.add_zero]
      exact LoopC.last (soAz _  n 20 _ _ (by omega)) (by simp)
    · obtain ⟨c, T', rfl, lc⟩ : ∃ c T', T = c ++ T' ∧ c.length = 20 := ⟨T.take 20, T.drop 20, (List.take_append_drop _ _).symm, by rw [List.length_take]; omega⟩
      simp only [List.length_append] at hd hT h
      obtain ⟨R1, T1, q1, q0, q2, q3⟩ := ih (P ++ srt (soLt ) c) T' (by omega) (by simp [srt_len]; omega)
      have hi := soIns  ho P c T' P.length (P.length + 20) rfl (by omega) (by omega)
      have hr := soAgo (P ++ c ++ T') (P ++ srt (soLt ) c ++ T')  n 20 P.length (P.length + 20) hn (by omega) (by omega) hi
      refine ⟨srt (soLt ) c ++ R1, T1, q1, by simp [srt_len]; omega, ?_, ?_⟩
      · have := Chk.cons c T' _ lc q2
        simp only [List.append_assoc, List.cons_append, List.nil_append] at this ⊢
        exact this
      · simp only [List.length_append, srt_len, lc] at q3 ⊢
        simp only [List.append_assoc, List.cons_append, List.nil_append, Nat.add_assoc] at hr q3 ⊢
        exact LoopC.next hr q3
theorem soCin  (ho : Swo (soLt )) (n bs : Nat) (hn : n ≤ 500000) (h0 : 0 < bs) (hbs : bs < n) : ∀ (d : Nat) (P T0 T : List Ep), T0.length ≤ d → Chk (soLt ) bs T0 T → n = P.length + T0.length →
    ∃ R1 U0 U, U0.length < 2 * bs ∧ R1.length + U0.length = T0.length ∧ Chk (soLt ) bs U0 U ∧ Chk (soLt ) (2 * bs) T0 (R1 ++ srt (soLt ) U0) ∧ LoopC Try.prog 1 63 soCB (soC (P ++ T)  n bs P.length (P.length + 2 * bs)) (.exit 4) (soC (P ++ R1 ++ U)  n bs (P.length + R1.length) (P.length + R1.length + 2 * bs)) := by
  intro d
  induction d with
  | zero =>
    intro P T0 T hd hc hT
    refine ⟨[], T0, T, by omega, by simp, hc, Chk.last T0 (by omega), ?_⟩
    simp only [List.append_nil, List.length_nil, Nat.add_zero] at hT ⊢
    exact LoopC.last (soCz _  n bs _ _ (by omega)) (by simp)
  | succ d ih =>
    intro P T0 T hd hc hT
    by_cases h : T0.length < 2 * bs
    · refine ⟨[], T0, T, h, by simp, hc, Chk.last T0 h, ?_⟩
      simp only [List.append_nil, List.length_nil, Nat.add_zero]
      exact LoopC.last (soCz _  n bs _ _ (by omega)) (by simp)
    · obtain ⟨c1, l1, r1, rfl, rfl, lc1, hc1⟩ := hc.two (by omega)
      simp only [List.length_append] at hd hT h
      obtain ⟨c2, l2, r2, hc2⟩ : ∃ c2 l2 r2, l1 = c2 ++ l2 ∧ r1 = srt (soLt ) c2 ++ r2 ∧ c2.length = bs ∧ Chk (soLt ) bs l2 r2 := by
        by_cases h' : l1.length = bs
        · have := hc1.done (by omega)
          exact ⟨l1, [], [], by simp, by simp [this], h', Chk.last [] h0⟩
        · exact hc1.two (by omega)
      obtain ⟨rfl, rfl, lc2, hc3⟩ := hc2
      simp only [List.length_append] at hd hT h
      have hr2 := hc3.len
      obtain ⟨R1, U0, U, q1, q0, q2, q3, q4⟩ := ih (P ++ srt (soLt ) (c1 ++ c2)) l2 r2 (by omega) hc3 (by simp [srt_len]; omega)
      have hi := soSym  ho _ P (srt (soLt ) c1) (srt (soLt ) c2) r2 P.length (P.length + bs) (P.length + 2 * bs) (Nat.le_refl _) (by rw [srt_len]; omega) (by rw [srt_len]; omega) (srt_srt ho _) (srt_srt ho _) rfl (by rw [srt_len]; omega) (by rw [srt_len, srt_len]; omega) (by rw [srt_len, srt_len]; omega)
      rw [← srt_append ho] at hi
      have hr := soCgo _ _  n bs P.length (P.length + 2 * bs) hn (by omega) (by omega) (by omega) hi
      refine ⟨srt (soLt ) (c1 ++ c2) ++ R1, U0, U, q1, by simp [srt_len]; omega, q2, ?_, ?_⟩
      · have := Chk.cons (c1 ++ c2) l2 _ (by simp; omega) q3
        simp only [List.append_assoc, List.cons_append, List.nil_append] at this ⊢
        exact this
      · have e : (P ++ srt (soLt ) (c1 ++ c2)).length = P.length + 2 * bs := by simp [srt_len]; omega
        have e2 : (srt (soLt ) (c1 ++ c2) ++ R1).length = 2 * bs + R1.length := by simp [srt_len]; omega
        rw [e] at q4
        rw [e2]
        simp only [List.append_assoc, List.cons_append, List.nil_append, Nat.add_assoc] at hr q4 ⊢
        exact LoopC.next hr q4
theorem soBin  (ho : Swo (soLt )) (l0 : List Ep) (n : Nat) (hn : n ≤ 500000) (h : n = l0.length) : ∀ (d bs : Nat) (l : List Ep), n - bs ≤ d → 0 < bs → Chk (soLt ) bs l0 l →
    ∃ bs', LoopC Try.prog 1 63 soBB (soB l  n bs) (.exit 2) (soB (srt (soLt ) l0)  n bs') := by
  intro d
  induction d with
  | zero =>
    intro bs l hd h0 hc
    rw [hc.done (by omega)]
    exact ⟨bs, LoopC.last (soBz _  n bs (by omega)) (by simp)⟩
  | succ d ih =>
    intro bs l hd h0 hc
    by_cases hb : n ≤ bs
    · rw [hc.done (by omega)]
      exact ⟨bs, LoopC.last (soBz _  n bs hb) (by simp)⟩
    · obtain ⟨R1, U0, U, q1, q0, q2, q3, q4⟩ := soCin  ho n bs hn h0 (by omega) l0.length [] l0 l (Nat.le_refl _) hc (by simpa using h)
      simp only [List.nil_append, List.length_nil, Nat.zero_add] at q4
      obtain ⟨bs', hk⟩ := ih (2 * bs) _ (by omega) (by omega) q3
      refine ⟨bs', ?_⟩
      by_cases hm : R1.length + bs < n
      · obtain ⟨c, l', r', rfl, rfl, lc, hc'⟩ := q2.two (by omega)
        simp only [List.length_append] at q1 q0
        have hr' := hc'.done (by omega)
        subst hr'
        have hi := soSym  ho _ R1 (srt (soLt ) c) (srt (soLt ) l') [] R1.length (R1.length + bs) n (Nat.le_refl _) (by rw [srt_len]; omega) (by rw [srt_len]; omega) (srt_srt ho _) (srt_srt ho _) rfl (by rw [srt_len]; omega) (by rw [srt_len, srt_len]; omega) (by rw [srt_len, srt_len, List.length_nil]; omega)
        rw [← srt_append ho] at hi
        simp only [List.append_nil, List.append_assoc] at hi
        exact LoopC.next (soBgo l _ _  n bs R1.length (R1.length + 2 * bs) hn (by omega) (by omega) hm q4 hi) hk
      · have hU := q2.done (by omega)
        subst hU
        exact LoopC.next (soBno l _  n bs R1.length (R1.length + 2 * bs) hn (by omega) (by omega) (by omega) q4) hk
/-- Sorting puts in order what is handed in. -/
theorem soSort  (ho : Swo (soLt )) (l : List Ep) (hs : l.length ≤ 500000) :
    Contract Try.prog 42 [.own 0, .clo (.func 43) [] []] [.arr 6 ((l).map Ep.row)] (.tup []) [some (.arr 6 ((srt (soLt ) l).map Ep.row))] := by
  obtain ⟨R1, T1, q1, q0, q2, q3⟩ := soAin  ho l.length hs l.length [] l (Nat.le_refl _) (by simp)
  simp only [List.nil_append, List.length_nil, Nat.zero_add] at q3
  obtain ⟨bs, hk⟩ := soBin  ho l l.length hs rfl l.length 20 _ (by omega) (by omega) q2
  have hi := soIns  ho R1 T1 [] R1.length l.length rfl (by omega) (by rw [List.length_nil]; omega)
  simp only [List.append_nil] at hi
  exact soSor l _  (soStb l _ _ _  l.length R1.length (R1.length + 20) bs q3 hi hk)
end Go.Proofs.Ytdomjccibhgbjaa

/- blocks. -/
namespace Go.Proofs.Ytdomjccibhgbjaa
open E
set_option maxRecDepth 100000
set_option linter.unusedVariables false
set_option linter.unusedSimpArgs false


/-- A block. -/
structure Bk where
  num : Int
  born : Int
  tier : Int
  eps : List Ep
def Bk.row (b : Bk) : List V := [I b.num, I b.born, I b.tier, .sl 6 (b.eps.map Ep.row)]
def Bk.v (b : Bk) : V := .agg b.row
end Go.Proofs.Ytdomjccibhgbjaa

/- copies of episodes; blocks. -/
namespace Go.Proofs.Ytdomjccibhgbjaa
open E
set_option maxRecDepth 100000
set_option linter.unusedVariables false
set_option linter.unusedSimpArgs false

theorem spC0 (l : List Sp) (hs : l.length ≤ 1000000) (hl : LoopC Try.prog 0 23 scB (scS l 0) (.exit 0) (scS l l.length)) : Contract Try.prog 78 [.sl 10 (l.map Sp.row)] [] (.sl 10 (l.map Sp.row)) [] :=
 vcS hmix [.reg 1 [(1, [.call [] [] (.own 0) [some (.arr 10 (l.map Sp.row))]], none)], .reg 2 [(1, [.be (I (l.length : Int))], none)], .cut ⟨[0, 7, 8], [(202001, 0)], []⟩ (.exit 0) (scS l l.length), .reg 7 [(0, [.idx 1], none)]] [] [⟨(by exact clnS _ (by simp; omega) : Contract Try.prog 94 [.sl 10 (List.map Sp.row l)] [] (.own 0) [some (.arr 10 (List.map Sp.row l))])⟩, ⟨lenm Sp.row l⟩, ⟨hl⟩]

theorem scAll (l : List Sp) (hs : l.length ≤ 1000000) (hm : ∀ s ∈ l, smS s) : ∀ n i : Nat, i + n = l.length → LoopC Try.prog 0 23 scB (scS l i) (.exit 0) (scS l l.length)
  | 0, i, h => by
    have : i = l.length := by omega
    subst this
    exact LoopC.last (scE l _ (Nat.le_refl _)) (by simp)
  | n + 1, i, h => LoopC.next (sc l l[i] i (List.getElem?_eq_getElem (by omega)) hs (hm _ (List.getElem_mem (by omega)))) (scAll l hs hm n (i + 1) (by omega))
theorem cSpC (l : List Sp) (hs : l.length ≤ 1000000) (hm : ∀ s ∈ l, smS s) : Contract Try.prog 78 [.sl 10 (l.map Sp.row)] [] (.sl 10 (l.map Sp.row)) [] :=
  spC0 l hs (scAll l hs hm l.length 0 (by omega))

theorem cEpC (e : Ep) (hm : smE e) : Contract Try.prog 52 [e.v] [] e.v [] :=
 vcS hmix [.reg 1 [(2, [.call [] [] (.sl 10 (e.spans.map Sp.row)) []], none)]] [] [⟨cSpC _ hm.1 hm.2⟩]

theorem ec (l R : List Ep) (x : Ep) (i : Nat) (hx : l[i]? = some x) (hs : l.length ≤ 1000000) (hR : R.length ≤ 1000000) (hm : smE x)  : CodeC Try.prog 0 19 ecB (ecS l R i) .normal (ecS l (R ++ [x]) (i + 1)) :=
 runS hmix [.reg 3 [(0, [], some true)], .reg 4 [(1, [.row (Ep.row x)], none)], .reg 5 [(2, [.call [] [] (Ep.v x) []], none), (4, [.beO ((R ++ [x]).map Ep.row)], none)], .reg 6 [(0, [.be (I ((i + 1 : Nat) : Int))], none)]] ⟨[3, 6, 7, 8], [(1005000, 0)], []⟩ [⟨(by have q := (List.getElem?_eq_some_iff.1 hx).1; simp; omega : decide (Int.ofNat i < Int.ofNat (List.length l)) = true)⟩, ⟨nn i⟩, ⟨(by have q := (List.getElem?_eq_some_iff.1 hx).1; simp; omega : Int.ofNat i < Int.ofNat (List.length (List.map Ep.row l)))⟩, ⟨gtm Ep.row hx⟩, ⟨cEpC _ hm⟩, ⟨(by have q := (List.getElem?_eq_some_iff.1 hx).1; simp; omega : (List.length (List.map Ep.row R) + 1) * 64 ≤ 140737488355328)⟩, ⟨(by rw [List.map_append]; rfl : List.map Ep.row R ++ [[(U (Ep.hi x)), (U (Ep.lo x)), I (Ep.first x), I (Ep.last x), Bo (Ep.sure x), .sl 10 (List.map Sp.row (Ep.spans x))]] = List.map Ep.row (R ++ [x]))⟩, ⟨(by have q := (List.getElem?_eq_some_iff.1 hx).1; exact i64_small (by simp; omega) : IntKind.wrap IntKind.i64 (Int.ofNat (i + 1)) = Int.ofNat (i + 1))⟩]

theorem ecE (l R : List Ep) (i : Nat) (h : l.length ≤ i)  : CodeC Try.prog 0 19 ecB (ecS l R i) (.exit 0) (ecS l R i) :=
 runS hmix [.reg 3 [(0, [], some false)]] ⟨[3, 6, 7, 8], [(0, 0)], []⟩ [⟨dge h⟩]

theorem epS0 (l : List Ep) (hl : LoopC Try.prog 0 19 ecB (ecS l [] 0) (.exit 0) (ecS l l l.length)) : Contract Try.prog 41 [.sl 6 (l.map Ep.row)] [] (.own 0) [some (.arr 6 (l.map Ep.row))] :=
 vcS hmix [.reg 1 [(0, [.idx 6], none)], .reg 2 [(1, [.be (I (l.length : Int))], none)], .cut ⟨[3, 6, 7, 8], [(201000, 0)], []⟩ (.exit 0) (ecS l l l.length)] [0] [⟨lenm Ep.row l⟩, ⟨hl⟩]

theorem ecAll (l : List Ep) (hs : l.length ≤ 1000000) (hm : ∀ e ∈ l, smE e) : ∀ n i : Nat, i + n = l.length → LoopC Try.prog 0 19 ecB (ecS l (l.take i) i) (.exit 0) (ecS l l l.length)
  | 0, i, h => by
    have : i = l.length := by omega
    subst this
    rw [List.take_length]
    exact LoopC.last (ecE l l _ (Nat.le_refl _)) (by simp)
  | n + 1, i, h => by
    have hx : l[i]? = some l[i] := List.getElem?_eq_getElem (by omega)
    have hr := ec l (l.take i) l[i] i hx hs (by rw [List.length_take]; omega) (hm _ (List.getElem_mem (by omega)))
    rw [← List.take_succ_eq_append_getElem (by omega)] at hr
    exact LoopC.next hr (ecAll l hs hm n (i + 1) (by omega))
theorem cEpS (l : List Ep) (hs : l.length ≤ 1000000) (hm : ∀ e ∈ l, smE e) : Contract Try.prog 41 [.sl 6 (l.map Ep.row)] [] (.own 0) [some (.arr 6 (l.map Ep.row))] :=
  epS0 l (ecAll l hs hm l.length 0 (by omega))
theorem soLt_eq (a b : Ep) : soLt a b = (decide (a.hi < b.hi) || (a.hi == b.hi && decide (a.lo < b.lo))) := by
  unfold soLt cmpE or2 cmpI
  by_cases h1 : a.hi < b.hi <;> by_cases h2 : b.hi < a.hi <;> by_cases h3 : a.lo < b.lo <;> by_cases h4 : b.lo < a.lo <;> simp [h1, h2, h3, h4] <;> omega
theorem soOrd : Swo soLt := by
  constructor
  · intro a b h
    rw [soLt_eq] at h ⊢
    simp at h ⊢
    omega
  · intro a b c h1 h2
    rw [soLt_eq] at h1 h2 ⊢
    simp at h1 h2 ⊢
    omega

theorem mk0 (n b t : Int) (l : List Ep) (hs : l.length ≤ 500000) (hm : ∀ e ∈ l, smE e) : Contract Try.prog 14 [I n, I b, I t, .sl 6 (l.map Ep.row)] [] (Bk.v ⟨n, b, t, srt soLt l⟩) [] :=
 vcS hmix [.reg 1 [(1, [.call [] [] (.own 0) [some (.arr 6 (l.map Ep.row))]], none)], .reg 2 [(1, [.call [202001] [] (.tup []) [some (.arr 6 ((srt soLt l).map Ep.row))]], none)], .reg 3 [(3, [.idx 1], none)]] [] [⟨cEpS l (by omega) hm⟩, ⟨soSort soOrd l hs⟩]

end Go.Proofs.Ytdomjccibhgbjaa

/- numbers and spans that may be. -/
namespace Go.Proofs.Ytdomjccibhgbjaa
open E
set_option maxRecDepth 100000
set_option linter.unusedVariables false
set_option linter.unusedSimpArgs false

def badN1 (n : Int) : Bool := decide (n < 0) || decide (n > 1099511627776)
def epochB (l : List Int) : Bool := !decide (0 ≤ idxI badN1 l)
def badS1 (s : Sp) : Bool := !rightS s
def allB (l : List Sp) : Bool := !decide (0 ≤ idxI badS1 l)
theorem cEp1_0 (n : Int)  (tq0 : (decide (n < (0 : Int))) = true) : Contract Try.prog 80 [I n] [] (Bo true) ([]) :=
 vcS hmix [.reg 1 [(2, [], some true)]] [] [⟨tq0⟩]

theorem cEp1_1 (n : Int)  (tq0 : (decide (n < (0 : Int))) = false) : Contract Try.prog 80 [I n] [] (Bo (decide (n > 1099511627776))) ([]) :=
 vcS hmix [.reg 1 [(2, [], some false)]] [] [⟨tq0⟩]

theorem cEp1 (n : Int)  : Contract Try.prog 80 [I n] [] (Bo (badN1 n)) [] := by
  rcases tf (decide (n < (0 : Int))) with tq0 | tq0
  · exact Contract.cast (by simp only [badN1, tq0, cond_true, cond_false]; rfl) rfl (cEp1_0 n  tq0)
  · exact Contract.cast (by simp only [badN1, tq0, cond_true, cond_false]; rfl) rfl (cEp1_1 n  tq0)

theorem cAl1 (s : Sp) (hs : s.attrs.length ≤ 1000000000) : Contract Try.prog 98 [s.v] [] (Bo (badS1 s)) [] :=
 vcS hmix [.reg 1 [(1, [.call [] [] (Bo (rightS s)) []], none)]] [] [⟨cRight s hs⟩]

def ixNS (l : List Int)  (i : Nat) (r : Int) : SL := ⟨[(0, .sl 1 (l.map iRow)), (1, .clo (.func 80) [] []), (4, I r), (7, I (l.length : Int)), (8, I (i : Int))], [], []⟩
noncomputable def ixNB : Code := codeAt Try.prog 96 [true, false, true, false, false]

theorem ixNNo (l : List Int)  (x : Int) (i : Nat) (h : i < l.length) (hx : l[i]? = some x) (hs : l.length ≤ 1000000000000000) (hp : (badN1) x = false) : CodeC Try.prog 0 19 ixNB (ixNS l  i 0) .normal (ixNS l  (i + 1) 0) :=
 runS hmix [.reg 2 [(0, [], some true)], .reg 4 [(4, [.row (iRow x)], none), (5, [.call [] [] (Bo ((badN1) x)) []], some false)], .reg 6 [(0, [.be (I ((i + 1 : Nat) : Int))], none)]] ⟨[0, 1, 4, 7, 8], [], []⟩ [⟨dlt h⟩, ⟨nn i⟩, ⟨ltm iRow h⟩, ⟨gtm iRow hx⟩, ⟨cEp1 x⟩, ⟨(by omega : badN1 x = false)⟩, ⟨w64 (i + 1) (by omega)⟩]

theorem ixNYes (l : List Int)  (x : Int) (i : Nat) (h : i < l.length) (hx : l[i]? = some x) (hs : l.length ≤ 1000000000000000) (hp : (badN1) x = true) : CodeC Try.prog 0 19 ixNB (ixNS l  i 0) .ret (ixNS l  i (i : Int)) :=
 runS hmix [.reg 2 [(0, [], some true)], .reg 4 [(4, [.row (iRow x)], none), (5, [.call [] [] (Bo ((badN1) x)) []], some true)]] ⟨[0, 1, 4, 7, 8], [], []⟩ [⟨dlt h⟩, ⟨nn i⟩, ⟨ltm iRow h⟩, ⟨gtm iRow hx⟩, ⟨cEp1 x⟩, ⟨(by omega : badN1 x = true)⟩]

theorem ixNEnd (l : List Int)  (i : Nat) (h : l.length ≤ i) : CodeC Try.prog 0 19 ixNB (ixNS l  i 0) (.exit 0) (ixNS l  i 0) :=
 runS hmix [.reg 2 [(0, [], some false)]] ⟨[0, 1, 4, 7, 8], [], []⟩ [⟨dge h⟩]

theorem ixNLoop (l : List Int)  (hs : l.length ≤ 1000000000000000) : ∀ (n i : Nat), i + n = l.length →
    match (l.drop i).findIdx? (badN1) with
    | some j => LoopC Try.prog 0 19 ixNB (ixNS l  i 0) .ret (ixNS l  (i + j) ((i + j : Nat) : Int))
    | none => LoopC Try.prog 0 19 ixNB (ixNS l  i 0) (.exit 0) (ixNS l  l.length 0)
  | 0, i, hi => by
    rw [List.drop_of_length_le (by omega)]
    have : i = l.length := by omega
    subst this
    exact LoopC.last (ixNEnd l  _ (by omega)) (by simp)
  | n + 1, i, hi => by
    have hlt : i < l.length := by omega
    have hx : l[i]? = some l[i] := by simp [hlt]
    have ih := ixNLoop l  hs n (i + 1) (by omega)
    rw [List.drop_eq_getElem_cons hlt, List.findIdx?_cons]
    cases hp : (badN1) l[i] with
    | true =>
      simp only [if_true, Nat.add_zero]
      exact LoopC.last (ixNYes l  l[i] i hlt hx hs hp) (by simp)
    | false =>
      have r := ixNNo l  l[i] i hlt hx hs hp
      simp only [Bool.false_eq_true, if_false]
      cases hf : (l.drop (i + 1)).findIdx? (badN1) with
      | none => rw [hf] at ih; exact LoopC.next r ih
      | some j =>
        rw [hf] at ih
        simp only [Option.map_some]
        rw [show i + (j + 1) = i + 1 + j by omega]
        exact LoopC.next r ih

theorem ixNSome (l : List Int)  (j : Nat) (hs : l.length ≤ 1000000000000000) (h : l.findIdx? (badN1) = some j) : Contract Try.prog 96 [.sl 1 (l.map iRow), .clo (.func 80) [] []] [] (I (j : Int)) [] :=
  have hl := ixNLoop l  hs l.length 0 (by omega)
  have hl : LoopC Try.prog 0 19 ixNB (ixNS l  0 0) .ret (ixNS l  j ((j : Nat) : Int)) := by rw [List.drop_zero, h] at hl; simpa using hl
  vcP hmix [.reg 1 [(1, [.be (I (l.length : Int))], none)], .cut ⟨[0, 1, 4, 7, 8], [], []⟩ .ret (ixNS l  j (j : Int))] [] [(((l.map iRow).length : Nat) : Int) = (l.length : Int), LoopC Try.prog 0 19 ixNB (ixNS l  0 0) .ret (ixNS l  j ((j : Nat) : Int))] (by kernel_rfl) ⟨by simp, hl⟩

theorem ixNNone (l : List Int)  (hs : l.length ≤ 1000000000000000) (h : l.findIdx? (badN1) = none) : Contract Try.prog 96 [.sl 1 (l.map iRow), .clo (.func 80) [] []] [] (I (-1)) [] :=
  have hl := ixNLoop l  hs l.length 0 (by omega)
  have hl : LoopC Try.prog 0 19 ixNB (ixNS l  0 0) (.exit 0) (ixNS l  l.length 0) := by rw [List.drop_zero, h] at hl; exact hl
  vcP hmix [.reg 1 [(1, [.be (I (l.length : Int))], none)], .cut ⟨[0, 1, 4, 7, 8], [], []⟩ (.exit 0) (ixNS l  l.length 0)] [] [(((l.map iRow).length : Nat) : Int) = (l.length : Int), LoopC Try.prog 0 19 ixNB (ixNS l  0 0) (.exit 0) (ixNS l  l.length 0)] (by kernel_rfl) ⟨by simp, hl⟩

theorem ixN (l : List Int)  (hs : l.length ≤ 1000000000000000) : Contract Try.prog 96 [.sl 1 (l.map iRow), .clo (.func 80) [] []] [] (I (idxI (badN1) l)) [] := by
  unfold idxI
  cases h : l.findIdx? (badN1) with
  | none => exact ixNNone l  hs h
  | some j => exact ixNSome l  j hs h

def ixSS (l : List Sp)  (i : Nat) (r : Int) : SL := ⟨[(0, .sl 10 (l.map Sp.row)), (1, .clo (.func 98) [] []), (4, I r), (7, I (l.length : Int)), (8, I (i : Int))], [], []⟩
noncomputable def ixSB : Code := codeAt Try.prog 103 [true, false, true, false, false]

theorem ixSNo (l : List Sp)  (x : Sp) (i : Nat) (h : i < l.length) (hx : l[i]? = some x) (hs : l.length ≤ 1000000000000000) (hm : ∀ s ∈ l, s.attrs.length ≤ 1000000000) (hp : (badS1) x = false) : CodeC Try.prog 0 19 ixSB (ixSS l  i 0) .normal (ixSS l  (i + 1) 0) :=
 runS hmix [.reg 2 [(0, [], some true)], .reg 4 [(4, [.row (Sp.row x)], none), (5, [.call [] [] (Bo ((badS1) x)) []], some false)], .reg 6 [(0, [.be (I ((i + 1 : Nat) : Int))], none)]] ⟨[0, 1, 4, 7, 8], [], []⟩ [⟨dlt h⟩, ⟨nn i⟩, ⟨ltm Sp.row h⟩, ⟨gtm Sp.row hx⟩, ⟨cAl1 x (hm x (List.mem_of_getElem? hx))⟩, ⟨(by omega : badS1 x = false)⟩, ⟨w64 (i + 1) (by omega)⟩]

theorem ixSYes (l : List Sp)  (x : Sp) (i : Nat) (h : i < l.length) (hx : l[i]? = some x) (hs : l.length ≤ 1000000000000000) (hm : ∀ s ∈ l, s.attrs.length ≤ 1000000000) (hp : (badS1) x = true) : CodeC Try.prog 0 19 ixSB (ixSS l  i 0) .ret (ixSS l  i (i : Int)) :=
 runS hmix [.reg 2 [(0, [], some true)], .reg 4 [(4, [.row (Sp.row x)], none), (5, [.call [] [] (Bo ((badS1) x)) []], some true)]] ⟨[0, 1, 4, 7, 8], [], []⟩ [⟨dlt h⟩, ⟨nn i⟩, ⟨ltm Sp.row h⟩, ⟨gtm Sp.row hx⟩, ⟨cAl1 x (hm x (List.mem_of_getElem? hx))⟩, ⟨(by omega : badS1 x = true)⟩]

theorem ixSEnd (l : List Sp)  (i : Nat) (h : l.length ≤ i) : CodeC Try.prog 0 19 ixSB (ixSS l  i 0) (.exit 0) (ixSS l  i 0) :=
 runS hmix [.reg 2 [(0, [], some false)]] ⟨[0, 1, 4, 7, 8], [], []⟩ [⟨dge h⟩]

theorem ixSLoop (l : List Sp)  (hs : l.length ≤ 1000000000000000) (hm : ∀ s ∈ l, s.attrs.length ≤ 1000000000) : ∀ (n i : Nat), i + n = l.length →
    match (l.drop i).findIdx? (badS1) with
    | some j => LoopC Try.prog 0 19 ixSB (ixSS l  i 0) .ret (ixSS l  (i + j) ((i + j : Nat) : Int))
    | none => LoopC Try.prog 0 19 ixSB (ixSS l  i 0) (.exit 0) (ixSS l  l.length 0)
  | 0, i, hi => by
    rw [List.drop_of_length_le (by omega)]
    have : i = l.length := by omega
    subst this
    exact LoopC.last (ixSEnd l  _ (by omega)) (by simp)
  | n + 1, i, hi => by
    have hlt : i < l.length := by omega
    have hx : l[i]? = some l[i] := by simp [hlt]
    have ih := ixSLoop l  hs hm n (i + 1) (by omega)
    rw [List.drop_eq_getElem_cons hlt, List.findIdx?_cons]
    cases hp : (badS1) l[i] with
    | true =>
      simp only [if_true, Nat.add_zero]
      exact LoopC.last (ixSYes l  l[i] i hlt hx hs hm hp) (by simp)
    | false =>
      have r := ixSNo l  l[i] i hlt hx hs hm hp
      simp only [Bool.false_eq_true, if_false]
      cases hf : (l.drop (i + 1)).findIdx? (badS1) with
      | none => rw [hf] at ih; exact LoopC.next r ih
      | some j =>
        rw [hf] at ih
        simp only [Option.map_some]
        rw [show i + (j + 1) = i + 1 + j by omega]
        exact LoopC.next r ih

theorem ixSSome (l : List Sp)  (j : Nat) (hs : l.length ≤ 1000000000000000) (hm : ∀ s ∈ l, s.attrs.length ≤ 1000000000) (h : l.findIdx? (badS1) = some j) : Contract Try.prog 103 [.sl 10 (l.map Sp.row), .clo (.func 98) [] []] [] (I (j : Int)) [] :=
  have hl := ixSLoop l  hs hm l.length 0 (by omega)
  have hl : LoopC Try.prog 0 19 ixSB (ixSS l  0 0) .ret (ixSS l  j ((j : Nat) : Int)) := by rw [List.drop_zero, h] at hl; simpa using hl
  vcP hmix [.reg 1 [(1, [.be (I (l.length : Int))], none)], .cut ⟨[0, 1, 4, 7, 8], [], []⟩ .ret (ixSS l  j (j : Int))] [] [(((l.map Sp.row).length : Nat) : Int) = (l.length : Int), LoopC Try.prog 0 19 ixSB (ixSS l  0 0) .ret (ixSS l  j ((j : Nat) : Int))] (by kernel_rfl) ⟨by simp, hl⟩

theorem ixSNone (l : List Sp)  (hs : l.length ≤ 1000000000000000) (hm : ∀ s ∈ l, s.attrs.length ≤ 1000000000) (h : l.findIdx? (badS1) = none) : Contract Try.prog 103 [.sl 10 (l.map Sp.row), .clo (.func 98) [] []] [] (I (-1)) [] :=
  have hl := ixSLoop l  hs hm l.length 0 (by omega)
  have hl : LoopC Try.prog 0 19 ixSB (ixSS l  0 0) (.exit 0) (ixSS l  l.length 0) := by rw [List.drop_zero, h] at hl; exact hl
  vcP hmix [.reg 1 [(1, [.be (I (l.length : Int))], none)], .cut ⟨[0, 1, 4, 7, 8], [], []⟩ (.exit 0) (ixSS l  l.length 0)] [] [(((l.map Sp.row).length : Nat) : Int) = (l.length : Int), LoopC Try.prog 0 19 ixSB (ixSS l  0 0) (.exit 0) (ixSS l  l.length 0)] (by kernel_rfl) ⟨by simp, hl⟩

theorem ixS (l : List Sp)  (hs : l.length ≤ 1000000000000000) (hm : ∀ s ∈ l, s.attrs.length ≤ 1000000000) : Contract Try.prog 103 [.sl 10 (l.map Sp.row), .clo (.func 98) [] []] [] (I (idxI (badS1) l)) [] := by
  unfold idxI
  cases h : l.findIdx? (badS1) with
  | none => exact ixSNone l  hs hm h
  | some j => exact ixSSome l  j hs hm h

theorem cCI (l : List Int) (hs : l.length ≤ 1000000000) : Contract Try.prog 79 [.sl 1 (l.map iRow), .clo (.func 80) [] []] [] (Bo (decide (0 ≤ idxI badN1 l))) [] :=
 vcS hmix [.reg 1 [(2, [.call [] [] (I (idxI badN1 l)) []], none)]] [] [⟨ixN l (by omega)⟩]

theorem cCS (l : List Sp) (hs : l.length ≤ 1000000000) (hm : ∀ s ∈ l, s.attrs.length ≤ 1000000000) : Contract Try.prog 97 [.sl 10 (l.map Sp.row), .clo (.func 98) [] []] [] (Bo (decide (0 ≤ idxI badS1 l))) [] :=
 vcS hmix [.reg 1 [(2, [.call [] [] (I (idxI badS1 l)) []], none)]] [] [⟨ixS l (by omega) hm⟩]

theorem cEpoch (l : List Int) (hs : l.length ≤ 1000000000) : Contract Try.prog 53 [.sl 1 (l.map iRow)] [] (Bo (epochB l)) [] :=
 vcS hmix [.reg 1 [(1, [.call [] [] (Bo (decide (0 ≤ idxI badN1 l))) []], none)]] [] [⟨cCI l hs⟩]

theorem cAllS (l : List Sp) (hs : l.length ≤ 1000000000) (hm : ∀ s ∈ l, s.attrs.length ≤ 1000000000) : Contract Try.prog 82 [.sl 10 (l.map Sp.row)] [] (Bo (allB l)) [] :=
 vcS hmix [.reg 1 [(1, [.call [] [] (Bo (decide (0 ≤ idxI badS1 l))) []], none)]] [] [⟨cCS l hs hm⟩]

end Go.Proofs.Ytdomjccibhgbjaa

/- episodes in order. -/
namespace Go.Proofs.Ytdomjccibhgbjaa
open E
set_option maxRecDepth 100000
set_option linter.unusedVariables false
set_option linter.unusedSimpArgs false

/-- Up to place n, none is ahead of the one before it. -/
def srtN (l : List Ep) : Nat → Bool
  | 0 => true
  | j + 1 => match l[j + 1]?, l[j]? with
    | some x, some y => !decide (cmpE x y < 0) && srtN l j
    | _, _ => true
def sortedB (l : List Ep) : Bool := srtN l (l.length - 1)
def isS (l : List Ep) (i : Int) : SL := ⟨[(0, .sl 6 (l.map Ep.row)), (1, .clo (.func 43) [] []), (4, Bo false), (5, I i)], [], []⟩
noncomputable def isB : Code := codeAt Try.prog 54 [true, false, true, false, false]

theorem is_0 (l : List Ep) (x y : Ep) (j : Nat) (hx : l[j + 1]? = some x) (hy : l[j]? = some y) (hs : l.length ≤ 1000000000) (tq0 : (decide (cmpE x y < (0 : Int))) = true) : CodeC Try.prog 0 25 isB (isS l ((j + 1 : Nat) : Int)) .ret (isS l ((j + 1 : Nat) : Int)) :=
 runS hmix [.reg 2 [(1, [], some true)], .reg 4 [(4, [.row (Ep.row x)], none), (7, [.be (I ((j : Nat) : Int))], none), (9, [.row (Ep.row y)], none), (10, [.call [] [] (I (cmpE x y)) []], none), (11, [], some true)]] ⟨[0, 1, 4, 5], [], []⟩ [⟨(by simp [hx] : decide (Int.ofNat (j + 1) > 0) = true)⟩, ⟨nn (j + 1)⟩, ⟨(by have q := (List.getElem?_eq_some_iff.1 hx).1; simp; omega : Int.ofNat (j + 1) < Int.ofNat (List.length (List.map Ep.row l)))⟩, ⟨(by simp [hx] : (List.map Ep.row l)[Int.toNat (Int.ofNat (j + 1))]? = some (Ep.row x))⟩, ⟨(by have q := (List.getElem?_eq_some_iff.1 hx).1; rw [i64_small (by simp only [Int.ofNat_eq_natCast]; omega)]; simp only [Int.ofNat_eq_natCast]; omega : IntKind.wrap IntKind.i64 (Int.ofNat (j + 1) + (-1)) = Int.ofNat j)⟩, ⟨nn j⟩, ⟨(by have q := (List.getElem?_eq_some_iff.1 hx).1; simp; omega : Int.ofNat j < Int.ofNat (List.length (List.map Ep.row l)))⟩, ⟨gtm Ep.row hy⟩, ⟨cCompare x y⟩, ⟨tq0⟩]

theorem is_1 (l : List Ep) (x y : Ep) (j : Nat) (hx : l[j + 1]? = some x) (hy : l[j]? = some y) (hs : l.length ≤ 1000000000) (tq0 : (decide (cmpE x y < (0 : Int))) = false) : CodeC Try.prog 0 25 isB (isS l ((j + 1 : Nat) : Int)) .normal (isS l ((j : Nat) : Int)) :=
 runS hmix [.reg 2 [(1, [], some true)], .reg 4 [(4, [.row (Ep.row x)], none), (7, [.be (I ((j : Nat) : Int))], none), (9, [.row (Ep.row y)], none), (10, [.call [] [] (I (cmpE x y)) []], none), (11, [], some false)], .reg 3 [(1, [.be (I ((j : Nat) : Int))], none)]] ⟨[0, 1, 4, 5], [], []⟩ [⟨(by simp [hx] : decide (Int.ofNat (j + 1) > 0) = true)⟩, ⟨nn (j + 1)⟩, ⟨(by have q := (List.getElem?_eq_some_iff.1 hx).1; simp; omega : Int.ofNat (j + 1) < Int.ofNat (List.length (List.map Ep.row l)))⟩, ⟨(by simp [hx] : (List.map Ep.row l)[Int.toNat (Int.ofNat (j + 1))]? = some (Ep.row x))⟩, ⟨(by have q := (List.getElem?_eq_some_iff.1 hx).1; rw [i64_small (by simp only [Int.ofNat_eq_natCast]; omega)]; simp only [Int.ofNat_eq_natCast]; omega : IntKind.wrap IntKind.i64 (Int.ofNat (j + 1) + (-1)) = Int.ofNat j)⟩, ⟨nn j⟩, ⟨(by have q := (List.getElem?_eq_some_iff.1 hx).1; simp; omega : Int.ofNat j < Int.ofNat (List.length (List.map Ep.row l)))⟩, ⟨gtm Ep.row hy⟩, ⟨cCompare x y⟩, ⟨tq0⟩, ⟨(by have q := (List.getElem?_eq_some_iff.1 hx).1; rw [i64_small (by simp only [Int.ofNat_eq_natCast]; omega)]; simp only [Int.ofNat_eq_natCast]; omega : IntKind.wrap IntKind.i64 (Int.ofNat (j + 1) + (-1)) = Int.ofNat j)⟩]

theorem isGo (l : List Ep) (x y : Ep) (j : Nat) (hx : l[j + 1]? = some x) (hy : l[j]? = some y) (hs : l.length ≤ 1000000000) (hb : decide (cmpE x y < 0) = false) : CodeC Try.prog 0 25 isB (isS l ((j + 1 : Nat) : Int)) .normal (isS l ((j : Nat) : Int)) := by
  rcases tf (decide (cmpE x y < (0 : Int))) with tq0 | tq0
  · exact absurd hb (by simp [tq0])
  · exact is_1 l x y j hx hy hs tq0

theorem isStop (l : List Ep) (x y : Ep) (j : Nat) (hx : l[j + 1]? = some x) (hy : l[j]? = some y) (hs : l.length ≤ 1000000000) (hb : decide (cmpE x y < 0) = true) : CodeC Try.prog 0 25 isB (isS l ((j + 1 : Nat) : Int)) .ret (isS l ((j + 1 : Nat) : Int)) := by
  rcases tf (decide (cmpE x y < (0 : Int))) with tq0 | tq0
  · exact is_0 l x y j hx hy hs tq0
  · exact absurd hb (by simp [tq0])

theorem isE (l : List Ep) (i : Int) (h : i ≤ 0)  : CodeC Try.prog 0 25 isB (isS l i) (.exit 0) (isS l i) :=
 runS hmix [.reg 2 [(1, [], some false)]] ⟨[0, 1, 4, 5], [], []⟩ [⟨(by simp; omega : decide (i > 0) = false)⟩]

theorem isAll (l : List Ep) (hs : l.length ≤ 1000000000) : ∀ n : Nat, (n = 0 ∨ n < l.length) →
    (srtN l n = true ∧ LoopC Try.prog 0 25 isB (isS l (n : Int)) (.exit 0) (isS l 0)) ∨ (srtN l n = false ∧ ∃ j : Int, LoopC Try.prog 0 25 isB (isS l (n : Int)) .ret (isS l j))
  | 0, _ => .inl ⟨rfl, LoopC.last (isE l _ (by omega)) (by simp)⟩
  | j + 1, h => by
    have hx : l[j + 1]? = some (l[j + 1]'(by omega)) := List.getElem?_eq_getElem _
    have hy : l[j]? = some (l[j]'(by omega)) := List.getElem?_eq_getElem _
    have e : srtN l (j + 1) = (!decide (cmpE (l[j + 1]'(by omega)) (l[j]'(by omega)) < 0) && srtN l j) := by
      rw [srtN, hx, hy]
    rw [e]
    cases hb : decide (cmpE (l[j + 1]'(by omega)) (l[j]'(by omega)) < 0) with
    | true => exact .inr ⟨rfl, _, LoopC.last (isStop l _ _ j hx hy hs hb) (by simp)⟩
    | false =>
      rcases isAll l hs j (by omega) with ⟨k1, k2⟩ | ⟨k1, i, k2⟩
      · exact .inl ⟨by simpa using k1, LoopC.next (isGo l _ _ j hx hy hs hb) k2⟩
      · exact .inr ⟨by simpa using k1, i, LoopC.next (isGo l _ _ j hx hy hs hb) k2⟩
theorem is0 (l : List Ep) (h : l.length = 0) : Contract Try.prog 54 [.sl 6 (l.map Ep.row), .clo (.func 43) [] []] [] (Bo true) [] :=
 vcS hmix [.reg 1 [(2, [.be (I (-1))], none)], .cut ⟨[0, 1, 4, 5], [], []⟩ (.exit 0) (isS l (-1))] [] [⟨(by rw [List.length_map, h]; rfl : IntKind.wrap IntKind.i64 (Int.ofNat (List.length (List.map Ep.row l)) + (-1)) = (-1))⟩, ⟨LoopC.last (isE l (-1) (by omega)) (by simp)⟩]

theorem isG (l : List Ep) (h : 0 < l.length) (hs : l.length ≤ 1000000000) (hl : LoopC Try.prog 0 25 isB (isS l ((l.length - 1 : Nat) : Int)) (.exit 0) (isS l 0)) : Contract Try.prog 54 [.sl 6 (l.map Ep.row), .clo (.func 43) [] []] [] (Bo true) [] :=
 vcS hmix [.reg 1 [(2, [.be (I (((l.length - 1 : Nat) : Int)))], none)], .cut ⟨[0, 1, 4, 5], [], []⟩ (.exit 0) (isS l 0)] [] [⟨(by rw [List.length_map, i64_small (by simp only [Int.ofNat_eq_natCast]; omega)]; simp only [Int.ofNat_eq_natCast]; omega : IntKind.wrap IntKind.i64 (Int.ofNat (List.length (List.map Ep.row l)) + (-1)) = Int.ofNat (List.length l - 1))⟩, ⟨hl⟩]

theorem isX (l : List Ep) (j : Int) (h : 0 < l.length) (hs : l.length ≤ 1000000000) (hl : LoopC Try.prog 0 25 isB (isS l ((l.length - 1 : Nat) : Int)) .ret (isS l j)) : Contract Try.prog 54 [.sl 6 (l.map Ep.row), .clo (.func 43) [] []] [] (Bo false) [] :=
 vcS hmix [.reg 1 [(2, [.be (I (((l.length - 1 : Nat) : Int)))], none)], .cut ⟨[0, 1, 4, 5], [], []⟩ .ret (isS l j)] [] [⟨(by rw [List.length_map, i64_small (by simp only [Int.ofNat_eq_natCast]; omega)]; simp only [Int.ofNat_eq_natCast]; omega : IntKind.wrap IntKind.i64 (Int.ofNat (List.length (List.map Ep.row l)) + (-1)) = Int.ofNat (List.length l - 1))⟩, ⟨hl⟩]

theorem cSorted (l : List Ep) (hs : l.length ≤ 1000000000) : Contract Try.prog 54 [.sl 6 (l.map Ep.row), .clo (.func 43) [] []] [] (Bo (sortedB l)) [] := by
  unfold sortedB
  by_cases h : l.length = 0
  · rw [h]
    exact is0 l h
  · rcases isAll l hs (l.length - 1) (by omega) with ⟨k1, k2⟩ | ⟨k1, j, k2⟩
    · rw [k1]; exact isG l (by omega) hs k2
    · rw [k1]; exact isX l j (by omega) hs k2
end Go.Proofs.Ytdomjccibhgbjaa

/- blocks, by the reference: making one. -/
namespace Go.Proofs.Ytdomjccibhgbjaa
open E
set_option maxRecDepth 100000
set_option linter.unusedVariables false
set_option linter.unusedSimpArgs false

def ltT (a b c d : Int) : Bool := decide (a < c) || (a == c && decide (b < d))
def FLess : List V → Option V
  | [.agg [.val (.int _ a), .val (.int _ b)], .agg [.val (.int _ c), .val (.int _ d)]] => some (Bo (ltT a b c d))
  | _ => none
def moS (n b t : Int) (l R : List Ep) (i : Nat) : SL := ⟨[(3, .sl 6 (l.map Ep.row)), (8, .ptr 1000 0 0 0), (9, .ptr 205000 0 0 0), (10, I (i : Int))], [(1000, .box [I 0, I 0, I 0, .nil]), (205000, .box [I n, I b, I t, .own 0]), (0, .arr 6 (R.map Ep.row))], [1000, 205000, 0]⟩
def mkS (n b t : Int) (l R : List Ep) (i k : Nat) : SL := ⟨[(3, .sl 6 (l.map Ep.row)), (8, .ptr 1000 0 0 0), (9, .ptr 205000 0 0 0), (10, I (i : Int)), (11, I (k : Int))], [(1000, .box [I 0, I 0, I 0, .nil]), (205000, .box [I n, I b, I t, .own 0]), (0, .arr 6 (R.map Ep.row))], [1000, 205000, 0]⟩
/-- How far back an episode goes. -/
def backK (R : List Ep) (x : Ep) : Nat → Nat
  | 0 => 0
  | k + 1 => match R[k]? with
    | some y => bif soLt x y then backK R x k else k + 1
    | none => k + 1
def insM (R : List Ep) (x : Ep) : List Ep := R.take (backK R x R.length) ++ [x] ++ R.drop (backK R x R.length)
noncomputable def moB : Code := codeAt Try.prog 27 [true, true, false, true, false, false]

noncomputable def mkB : Code := codeAt Try.prog 27 [true, true, false, true, false, false, true, false, false, true, false, false, false]

theorem cLess_0 (a b c d : Int)  (tq0 : (decide (a < c)) = true) : Contract Try.prog 15 [.agg [U a, U b], .agg [U c, U d]] [] (Bo true) ([]) :=
 vcS hmix [.reg 1 [(5, [], some true)]] [] [⟨tq0⟩]

theorem cLess_1 (a b c d : Int)  (tq0 : (decide (a < c)) = false) (tq1 : (a == c) = true) : Contract Try.prog 15 [.agg [U a, U b], .agg [U c, U d]] [] (Bo (decide (b < d))) ([]) :=
 vcS hmix [.reg 1 [(5, [], some false), (11, [], some true)]] [] [⟨tq0⟩, ⟨tq1⟩]

theorem cLess_2 (a b c d : Int)  (tq0 : (decide (a < c)) = false) (tq1 : (a == c) = false) : Contract Try.prog 15 [.agg [U a, U b], .agg [U c, U d]] [] (Bo false) ([]) :=
 vcS hmix [.reg 1 [(5, [], some false), (11, [], some false)]] [] [⟨tq0⟩, ⟨tq1⟩]

theorem cLess (a b c d : Int)  : Contract Try.prog 15 [.agg [U a, U b], .agg [U c, U d]] [] (Bo (ltT a b c d)) [] := by
  rcases tf (decide (a < c)) with tq0 | tq0
  · exact Contract.cast (by simp only [ltT, tq0, cond_true, cond_false]; rfl) rfl (cLess_0 a b c d  tq0)
  · rcases tf (a == c) with tq1 | tq1
    · exact Contract.cast (by simp only [ltT, tq0, tq1, cond_true, cond_false]; rfl) rfl (cLess_1 a b c d  tq0 tq1)
    · exact Contract.cast (by simp only [ltT, tq0, tq1, cond_true, cond_false]; rfl) rfl (cLess_2 a b c d  tq0 tq1)

theorem ltT_eq (x y : Ep) : ltT x.hi x.lo y.hi y.lo = soLt x y := by rw [soLt_eq]; rfl

theorem mkGo (n b t : Int) (l R : List Ep) (x y : Ep) (i k : Nat) (hx : l[i]? = some x) (hi : i < l.length) (hs : l.length ≤ 1000000) (hR : R.length ≤ 1000000) (hkR : k ≤ R.length) (hk : 0 < k) (hy : R[k - 1]? = some y) (hb : soLt x y = true)  : CodeC Try.prog 0 62 mkB (mkS n b t l R i k) .normal (mkS n b t l R i (k - 1)) :=
 runS hmix [.reg 6 [(1, [], some true), (7, [.row (Ep.row x)], none), (11, [.be (I ((k - 1 : Nat) : Int))], none), (14, [.row (Ep.row y)], none), (15, [.app FLess], some true)], .reg 7 [(1, [.be (I ((k - 1 : Nat) : Int))], none)], .tab [(15, FLess)]] ⟨[3, 8, 9, 10, 11], [(1000, 1000), (205000, 205000), (0, 0)], []⟩ [⟨(by simp; omega : decide (Int.ofNat k > 0) = true)⟩, ⟨nn i⟩, ⟨ltm Ep.row hi⟩, ⟨gtm Ep.row hx⟩, ⟨(by rw [i64_small (by simp; omega)]; simp; omega : IntKind.wrap IntKind.i64 (Int.ofNat k + (-1)) = Int.ofNat (k - 1))⟩, ⟨nn (k - 1)⟩, ⟨(by simp; omega : Int.ofNat (k - 1) < Int.ofNat (List.length (List.map Ep.row R)))⟩, ⟨(by simp [hy] : (List.map Ep.row R)[k - 1]? = some (Ep.row y))⟩, ⟨(by exact cLess _ _ _ _ : Contract Try.prog 15 [.agg [(U (Ep.hi x)), (U (Ep.lo x))], .agg [(U (Ep.hi y)), (U (Ep.lo y))]] [] (Bo (ltT (Ep.hi x) (Ep.lo x) (Ep.hi y) (Ep.lo y))) [])⟩, ⟨(by rw [ltT_eq]; exact hb : ltT (Ep.hi x) (Ep.lo x) (Ep.hi y) (Ep.lo y) = true)⟩, ⟨(by rw [i64_small (by simp; omega)]; simp; omega : IntKind.wrap IntKind.i64 (Int.ofNat k + (-1)) = Int.ofNat (k - 1))⟩]

theorem mkStop (n b t : Int) (l R : List Ep) (x y : Ep) (i k : Nat) (hx : l[i]? = some x) (hi : i < l.length) (hs : l.length ≤ 1000000) (hR : R.length ≤ 1000000) (hkR : k ≤ R.length) (hk : 0 < k) (hy : R[k - 1]? = some y) (hb : soLt x y = false)  : CodeC Try.prog 0 62 mkB (mkS n b t l R i k) (.exit 2) (mkS n b t l R i k) :=
 runS hmix [.reg 6 [(1, [], some true), (7, [.row (Ep.row x)], none), (11, [.be (I ((k - 1 : Nat) : Int))], none), (14, [.row (Ep.row y)], none), (15, [.app FLess], some false)], .tab [(15, FLess)]] ⟨[3, 8, 9, 10, 11], [(1000, 1000), (205000, 205000), (0, 0)], []⟩ [⟨(by simp; omega : decide (Int.ofNat k > 0) = true)⟩, ⟨nn i⟩, ⟨ltm Ep.row hi⟩, ⟨gtm Ep.row hx⟩, ⟨(by rw [i64_small (by simp; omega)]; simp; omega : IntKind.wrap IntKind.i64 (Int.ofNat k + (-1)) = Int.ofNat (k - 1))⟩, ⟨nn (k - 1)⟩, ⟨(by simp; omega : Int.ofNat (k - 1) < Int.ofNat (List.length (List.map Ep.row R)))⟩, ⟨(by simp [hy] : (List.map Ep.row R)[k - 1]? = some (Ep.row y))⟩, ⟨(by exact cLess _ _ _ _ : Contract Try.prog 15 [.agg [(U (Ep.hi x)), (U (Ep.lo x))], .agg [(U (Ep.hi y)), (U (Ep.lo y))]] [] (Bo (ltT (Ep.hi x) (Ep.lo x) (Ep.hi y) (Ep.lo y))) [])⟩, ⟨(by rw [ltT_eq]; exact hb : ltT (Ep.hi x) (Ep.lo x) (Ep.hi y) (Ep.lo y) = false)⟩]

theorem mkZ (n b t : Int) (l R : List Ep) (i : Nat)   : CodeC Try.prog 0 62 mkB (mkS n b t l R i 0) (.exit 2) (mkS n b t l R i 0) :=
 runS hmix [] ⟨[3, 8, 9, 10, 11], [(1000, 1000), (205000, 205000), (0, 0)], []⟩ []

theorem mkAll (n b t : Int) (l R : List Ep) (x : Ep) (i : Nat) (hx : l[i]? = some x) (hi : i < l.length) (hs : l.length ≤ 1000000) (hR : R.length ≤ 1000000) : ∀ k, k ≤ R.length → LoopC Try.prog 0 62 mkB (mkS n b t l R i k) (.exit 2) (mkS n b t l R i (backK R x k))
  | 0, _ => LoopC.last (mkZ n b t l R i) (by simp)
  | k + 1, hk => by
    have hy : R[k]? = some R[k] := List.getElem?_eq_getElem (by omega)
    unfold backK
    rw [hy]
    dsimp only
    cases hb : soLt x R[k] with
    | true => exact LoopC.next (mkGo n b t l R x R[k] i (k + 1) hx hi hs hR hk (by omega) hy hb) (mkAll n b t l R x i hx hi hs hR k (by omega))
    | false => exact LoopC.last (mkStop n b t l R x R[k] i (k + 1) hx hi hs hR hk (by omega) hy hb) (by simp)
theorem ins_cut (R : List Ep) (x : Ep) (k : Nat) : List.take k (R.map Ep.row) ++ [x.row] ++ List.drop k (R.map Ep.row) = (R.take k ++ [x] ++ R.drop k).map Ep.row := by
  rw [List.map_append, List.map_append, List.map_take, List.map_drop]; rfl

theorem mo (n b t : Int) (l R : List Ep) (x : Ep) (i k : Nat) (hx : l[i]? = some x) (hi : i < l.length) (hs : l.length ≤ 1000000) (hR : R.length ≤ 1000000) (hk : k ≤ R.length) (hl : LoopC Try.prog 0 62 mkB (mkS n b t l R i R.length) (.exit 2) (mkS n b t l R i k))  : CodeC Try.prog 0 62 moB (moS n b t l R i) .normal (moS n b t l (R.take k ++ [x] ++ R.drop k) (i + 1)) :=
  runP hmix [.reg 3 [(3, [], some true)], .reg 5 [(2, [.be (I (R.length : Int))], none)], .cut ⟨[3, 8, 9, 10, 11], [(1000, 1000), (205000, 205000), (0, 0)], []⟩ (.exit 2) (mkS n b t l R i k), .reg 8 [(3, [.idx 0], none), (8, [.row (Ep.row x)], none), (14, [.idx 0], none), (15, [.beO ((R.take k ++ [x] ++ R.drop k).map Ep.row)], none)], .reg 4 [(1, [.be (I ((i + 1 : Nat) : Int))], none)]] ⟨[3, 8, 9, 10], [(1000, 1000), (205000, 205000), (1616000, 0)], []⟩ [
      decide (Int.ofNat i < Int.ofNat (List.length (List.map Ep.row l))) = true,
      Int.ofNat (List.length (List.map Ep.row R)) = Int.ofNat (List.length R),
      LoopC Try.prog (0 : Nat) (62 : Nat) mkB { env := [((3 : Nat), V.sl (6 : Nat) (List.map Ep.row l)), ((8 : Nat), V.ptr (1000 : Nat) (0 : Nat) (0 : Nat) (0 : Nat)), ((9 : Nat), V.ptr (205000 : Nat) (0 : Nat) (0 : Nat) (0 : Nat)), ((10 : Nat), I (Int.ofNat i)), ((11 : Nat), I (Int.ofNat (List.length R)))], st := [((1000 : Nat), Obj.box [I (0 : Int), I (0 : Int), I (0 : Int), V.nil]), ((205000 : Nat), Obj.box [I n, I b, I t, V.own (0 : Nat)]), ((0 : Nat), Obj.arr (6 : Nat) (List.map Ep.row R))], ids := [(1000 : Nat), (205000 : Nat), (0 : Nat)] } (Ex.exit (2 : Nat)) { env := [((3 : Nat), V.sl (6 : Nat) (List.map Ep.row l)), ((8 : Nat), V.ptr (1000 : Nat) (0 : Nat) (0 : Nat) (0 : Nat)), ((9 : Nat), V.ptr (205000 : Nat) (0 : Nat) (0 : Nat) (0 : Nat)), ((10 : Nat), I (Int.ofNat i)), ((11 : Nat), I (Int.ofNat k))], st := [((1000 : Nat), Obj.box [I (0 : Int), I (0 : Int), I (0 : Int), V.nil]), ((205000 : Nat), Obj.box [I n, I b, I t, V.own (0 : Nat)]), ((0 : Nat), Obj.arr (6 : Nat) (List.map Ep.row R))], ids := [(1000 : Nat), (205000 : Nat), (0 : Nat)] },
      (0 : Int) ≤ (0 : Int),
      (0 : Int) ≤ Int.ofNat k,
      k ≤ List.length (List.map Ep.row R),
      k ≤ List.length (List.map Ep.row R),
      List.length (List.take k (List.map Ep.row R)) * (64 : Nat) ≤ (140737488355328 : Nat),
      (0 : Int) ≤ Int.ofNat i,
      Int.ofNat i < Int.ofNat (List.length (List.map Ep.row l)),
      (List.map Ep.row l)[i]? = some (Ep.row x),
      (List.length (List.take k (List.map Ep.row R)) + (1 : Nat)) * (64 : Nat) ≤ (140737488355328 : Nat),
      (0 : Int) ≤ Int.ofNat k,
      Int.ofNat k ≤ Int.ofNat (List.length (List.map Ep.row R)),
      List.length (List.map Ep.row R) ≤ List.length (List.map Ep.row R),
      List.length (List.map Ep.row R) ≤ List.length (List.map Ep.row R),
      (List.length (List.take k (List.map Ep.row R) ++ [[V.val (Value.int IntKind.u64 (Ep.hi x)), V.val (Value.int IntKind.u64 (Ep.lo x)), I (Ep.first x), I (Ep.last x), Bo (Ep.sure x), V.sl (10 : Nat) (List.map Sp.row (Ep.spans x))]]) + List.length (List.take (List.length (List.map Ep.row R) - k) (List.drop k (List.map Ep.row R)))) * (64 : Nat) ≤ (140737488355328 : Nat),
      List.take k (List.map Ep.row R) ++ [[V.val (Value.int IntKind.u64 (Ep.hi x)), V.val (Value.int IntKind.u64 (Ep.lo x)), I (Ep.first x), I (Ep.last x), Bo (Ep.sure x), V.sl (10 : Nat) (List.map Sp.row (Ep.spans x))]] ++ List.take (List.length (List.map Ep.row R) - k) (List.drop k (List.map Ep.row R)) = List.map Ep.row (List.take k R ++ [x] ++ List.drop k R),
      IntKind.wrap IntKind.i64 (Int.ofNat (i + (1 : Nat))) = Int.ofNat (i + (1 : Nat))] (by kernel_rfl)
    (by
      simp only [allP]
      and_intros <;> first
        | omega
        | exact hl
        | (simp; omega)
        | (simp [hx]; done)
        | exact i64_small (by simp; omega)
        | (refine Eq.trans ?_ (ins_cut R x k); refine congrArg _ ?_; exact List.take_of_length_le (by simp)))

theorem moE (n b t : Int) (l R : List Ep) (i : Nat) (h : l.length ≤ i)  : CodeC Try.prog 0 62 moB (moS n b t l R i) (.exit 0) (moS n b t l R i) :=
 runS hmix [.reg 3 [(3, [], some false)]] ⟨[3, 8, 9, 10], [(1000, 1000), (205000, 205000), (0, 0)], []⟩ [⟨dgem Ep.row h⟩]

theorem insM_len (R : List Ep) (x : Ep) : (insM R x).length = R.length + 1 := by
  unfold insM
  simp
  omega
theorem backK_le (R : List Ep) (x : Ep) : ∀ k, backK R x k ≤ k
  | 0 => Nat.le_refl _
  | k + 1 => by
    unfold backK
    split
    · cases soLt x _ with
      | true => exact Nat.le_succ_of_le (backK_le R x k)
      | false => exact Nat.le_refl _
    · exact Nat.le_refl _
theorem moAll (n b t : Int) (l : List Ep) (hs : l.length ≤ 500000) : LoopC Try.prog 0 62 moB (moS n b t l [] 0) (.exit 0) (moS n b t l (l.foldl insM []) l.length) :=
  LoopC.fold l insM (fun i R => R.length = i) (fun R i => moS n b t l R i) (by simp)
    (fun i R x hx hi hR => ⟨mo n b t l R x i (backK R x R.length) hx hi (by omega) (by omega) (backK_le R x _) (mkAll n b t l R x i hx hi (by omega) (by omega) R.length (Nat.le_refl _)), by rw [insM_len]; omega⟩)
    (fun R _ => moE n b t l R _ (Nat.le_refl _)) [] rfl

theorem mo0 (n b t : Int) (l R : List Ep) (hl : LoopC Try.prog 0 62 moB (moS n b t l [] 0) (.exit 0) (moS n b t l R l.length)) : Contract Try.prog 27 [I n, I b, I t, .sl 6 (l.map Ep.row)] [] (Bk.v ⟨n, b, t, R⟩) [] :=
 vcS hmix [.cut ⟨[3, 8, 9, 10], [(1000, 1000), (205000, 205000)], [.cell 205000 3 0 6]⟩ (.exit 0) (moS n b t l R l.length)] [] [⟨hl⟩]

theorem back_spec (R : List Ep) (x : Ep) (hs : Srt soLt R) : ∀ k, k ≤ R.length → (∀ y ∈ R.drop k, soLt x y = true) → (∀ y ∈ R.take (backK R x k), soLt x y = false) ∧ (∀ y ∈ R.drop (backK R x k), soLt x y = true)
  | 0, _, h => ⟨by simp [backK], by simpa [backK] using h⟩
  | k + 1, hk, h => by
    have hy : R[k]? = some R[k] := List.getElem?_eq_getElem (by omega)
    unfold backK
    rw [hy]
    dsimp only
    cases hb : soLt x R[k] with
    | true =>
      refine back_spec R x hs k (by omega) ?_
      intro y hm
      rw [List.drop_eq_getElem_cons (by omega)] at hm
      rcases List.mem_cons.1 hm with rfl | hm
      · exact hb
      · exact h y hm
    | false =>
      refine ⟨?_, h⟩
      intro y hm
      obtain ⟨j, hj⟩ := List.getElem?_of_mem hm
      have hjl := (List.getElem?_eq_some_iff.1 hj).1
      simp only [cond_false, List.length_take] at hjl
      rw [cond_false, List.getElem?_take_of_lt (by omega)] at hj
      have h1 : soLt R[k] y = false := Srt.le soOrd hs (show j ≤ k by omega) hj hy
      cases h2 : soLt x y with
      | false => rfl
      | true => rw [soOrd.lt_of_lt_le h2 h1] at hb; cases hb
theorem ins_mrg (R : List Ep) (x : Ep) (hs : Srt soLt R) : insM R x = mrg soLt R [x] := by
  obtain ⟨h1, h2⟩ := back_spec R x hs R.length (Nat.le_refl _) (by simp)
  have := mrg_one soOrd _ x _ h1 h2
  rw [List.take_append_drop] at this
  rw [this]
  unfold insM
  simp
theorem ins_srt (l : List Ep) : l.foldl insM [] = srt soLt l := by
  induction l using snoc_ind with
  | h0 => rfl
  | h1 l a ih =>
    rw [List.foldl_append, ih, srt_snoc]
    exact ins_mrg _ _ (srt_srt soOrd l)
theorem cMakeR (n b t : Int) (l : List Ep) (hs : l.length ≤ 500000) : Contract Try.prog 27 [I n, I b, I t, .sl 6 (l.map Ep.row)] [] (Bk.v ⟨n, b, t, srt soLt l⟩) [] := by
  rw [← ins_srt]
  exact mo0 n b t l _ (moAll n b t l hs)

end Go.Proofs.Ytdomjccibhgbjaa

/- spans: which may be, by the reference. -/
namespace Go.Proofs.Ytdomjccibhgbjaa
open E
set_option maxRecDepth 100000
set_option linter.unusedVariables false
set_option linter.unusedSimpArgs false

def rsS (s : Sp) (r : Bool) (i : Nat) : SL := ⟨[(1, .ptr 1000 0 0 0), (2, Bo r), (3, I (i : Int))], [(1000, .box s.row)], [1000]⟩
def rkS (s : Sp) (r : Bool) (i k : Nat) : SL := ⟨[(1, .ptr 1000 0 0 0), (2, Bo r), (3, I (i : Int)), (4, I (k : Int))], [(1000, .box s.row)], [1000]⟩
def badN (a : At) : Bool := !nameB a.key || decide ((a.val.size : Int) > 16)
def FWithin : List V → Option V
  | [.val (.int _ n), .val (.int _ lo), .val (.int _ hi)] => some (Bo (withinB n lo hi))
  | _ => none
noncomputable def rsB : Code := codeAt Try.prog 51 [true, true, false, true, false, false]

noncomputable def rkB : Code := codeAt Try.prog 51 [true, true, false, true, false, false, true, false, false, true, true, false, false]

theorem cWithin_0 (n lo hi : Int)  (tq0 : (decide (n ≥ lo)) = true) : Contract Try.prog 77 [I n, I lo, I hi] [] (Bo (decide (n ≤ hi))) ([]) :=
 vcS hmix [.reg 1 [(3, [], some true)]] [] [⟨tq0⟩]

theorem cWithin_1 (n lo hi : Int)  (tq0 : (decide (n ≥ lo)) = false) : Contract Try.prog 77 [I n, I lo, I hi] [] (Bo false) ([]) :=
 vcS hmix [.reg 1 [(3, [], some false)]] [] [⟨tq0⟩]

theorem cWithin (n lo hi : Int)  : Contract Try.prog 77 [I n, I lo, I hi] [] (Bo (withinB n lo hi)) [] := by
  rcases tf (decide (n ≥ lo)) with tq0 | tq0
  · exact Contract.cast (by simp only [withinB, tq0, cond_true, cond_false]; rfl) rfl (cWithin_0 n lo hi  tq0)
  · exact Contract.cast (by simp only [withinB, tq0, cond_true, cond_false]; rfl) rfl (cWithin_1 n lo hi  tq0)

theorem rk_0 (s : Sp) (a b : At) (i k : Nat) (h : k < i) (hx : s.attrs[i]? = some a) (hi : i < s.attrs.length) (hy : s.attrs[k]? = some b) (hs : s.attrs.length ≤ 4) (tq0 : (ByteArray.toList (At.key b) == ByteArray.toList (At.key a)) = true) : CodeC Try.prog 0 79 rkB (rkS s false i k) .ret (rkS s false i k) :=
 runS hmix [.reg 9 [(2, [], some true)], .reg 11 [(5, [.row (At.row b)], none), (11, [.row (At.row a)], none), (12, [], some true)]] ⟨[1, 2, 3, 4], [(1000, 1000)], []⟩ [⟨(by simp; omega : decide (Int.ofNat k < Int.ofNat i) = true)⟩, ⟨nn k⟩, ⟨(by simp; omega : Int.ofNat k < Int.ofNat (List.length (List.map At.row (Sp.attrs s))))⟩, ⟨gtm At.row hy⟩, ⟨nn i⟩, ⟨ltm At.row hi⟩, ⟨gtm At.row hx⟩, ⟨tq0⟩]

theorem rk_1 (s : Sp) (a b : At) (i k : Nat) (h : k < i) (hx : s.attrs[i]? = some a) (hi : i < s.attrs.length) (hy : s.attrs[k]? = some b) (hs : s.attrs.length ≤ 4) (tq0 : (ByteArray.toList (At.key b) == ByteArray.toList (At.key a)) = false) : CodeC Try.prog 0 79 rkB (rkS s false i k) .normal (rkS s false i (k + 1)) :=
 runS hmix [.reg 9 [(2, [], some true)], .reg 11 [(5, [.row (At.row b)], none), (11, [.row (At.row a)], none), (12, [], some false)], .reg 10 [(1, [.be (I ((k + 1 : Nat) : Int))], none)]] ⟨[1, 2, 3, 4], [(1000, 1000)], []⟩ [⟨(by simp; omega : decide (Int.ofNat k < Int.ofNat i) = true)⟩, ⟨nn k⟩, ⟨(by simp; omega : Int.ofNat k < Int.ofNat (List.length (List.map At.row (Sp.attrs s))))⟩, ⟨gtm At.row hy⟩, ⟨nn i⟩, ⟨ltm At.row hi⟩, ⟨gtm At.row hx⟩, ⟨tq0⟩, ⟨w64 (k + 1) (by omega)⟩]

theorem rkGo (s : Sp) (a b : At) (i k : Nat) (h : k < i) (hx : s.attrs[i]? = some a) (hi : i < s.attrs.length) (hy : s.attrs[k]? = some b) (hs : s.attrs.length ≤ 4) (hb : pKey a b = false) : CodeC Try.prog 0 79 rkB (rkS s false i k) .normal (rkS s false i (k + 1)) := by
  rcases tf (ByteArray.toList (At.key b) == ByteArray.toList (At.key a)) with tq0 | tq0
  · exact absurd hb (by simp [pKey, tq0])
  · exact rk_1 s a b i k h hx hi hy hs tq0

theorem rkStop (s : Sp) (a b : At) (i k : Nat) (h : k < i) (hx : s.attrs[i]? = some a) (hi : i < s.attrs.length) (hy : s.attrs[k]? = some b) (hs : s.attrs.length ≤ 4) (hb : pKey a b = true) : CodeC Try.prog 0 79 rkB (rkS s false i k) .ret (rkS s false i k) := by
  rcases tf (ByteArray.toList (At.key b) == ByteArray.toList (At.key a)) with tq0 | tq0
  · exact rk_0 s a b i k h hx hi hy hs tq0
  · exact absurd hb (by simp [pKey, tq0])

theorem rkE (s : Sp) (i k : Nat) (h : i ≤ k)  : CodeC Try.prog 0 79 rkB (rkS s false i k) (.exit 2) (rkS s false i k) :=
 runS hmix [.reg 9 [(2, [], some false)]] ⟨[1, 2, 3, 4], [(1000, 1000)], []⟩ [⟨(by simp; omega : decide (Int.ofNat k < Int.ofNat i) = false)⟩]

theorem rsX_0 (s : Sp) (a : At) (i : Nat) (h : i < s.attrs.length) (hx : s.attrs[i]? = some a) (hs : s.attrs.length ≤ 4) (hl : LoopC Try.prog 0 79 rkB (rkS s false i 0) (.exit 2) (rkS s false i i)) (tq0 : (!withinB (Int.ofNat (ByteArray.size (At.key a))) (1 : Int) (16 : Int)) = true) : CodeC Try.prog 0 79 rsB (rsS s false i) .ret (rsS s false i) :=
 runS hmix [.reg 4 [(4, [], some true)], .reg 6 [(5, [.row (At.row a)], none), (9, [], some true)], .tab [(77, FWithin)]] ⟨[1, 2, 3], [(1000, 1000)], []⟩ [⟨dltm At.row h⟩, ⟨nn i⟩, ⟨ltm At.row h⟩, ⟨gtm At.row hx⟩, ⟨(by exact cWithin _ _ _ : Contract Try.prog 77 [I (Int.ofNat (ByteArray.size (At.key a))), I 1, I 16] [] (Bo (withinB (Int.ofNat (ByteArray.size (At.key a))) 1 16)) [])⟩, ⟨tq0⟩]

theorem rsX_1 (s : Sp) (a : At) (i : Nat) (h : i < s.attrs.length) (hx : s.attrs[i]? = some a) (hs : s.attrs.length ≤ 4) (hl : LoopC Try.prog 0 79 rkB (rkS s false i 0) (.exit 2) (rkS s false i i)) (tq0 : (!withinB (Int.ofNat (ByteArray.size (At.key a))) (1 : Int) (16 : Int)) = false) (tq1 : (decide (Int.ofNat (ByteArray.size (At.val a)) > (16 : Int))) = true) : CodeC Try.prog 0 79 rsB (rsS s false i) .ret (rsS s false i) :=
 runS hmix [.reg 4 [(4, [], some true)], .reg 6 [(5, [.row (At.row a)], none), (9, [], some false), (15, [.row (At.row a)], none), (18, [], some true)], .tab [(77, FWithin)]] ⟨[1, 2, 3], [(1000, 1000)], []⟩ [⟨dltm At.row h⟩, ⟨nn i⟩, ⟨ltm At.row h⟩, ⟨gtm At.row hx⟩, ⟨(by exact cWithin _ _ _ : Contract Try.prog 77 [I (Int.ofNat (ByteArray.size (At.key a))), I 1, I 16] [] (Bo (withinB (Int.ofNat (ByteArray.size (At.key a))) 1 16)) [])⟩, ⟨tq0⟩, ⟨nn i⟩, ⟨ltm At.row h⟩, ⟨gtm At.row hx⟩, ⟨tq1⟩]

theorem rsX_2 (s : Sp) (a : At) (i : Nat) (h : i < s.attrs.length) (hx : s.attrs[i]? = some a) (hs : s.attrs.length ≤ 4) (hl : LoopC Try.prog 0 79 rkB (rkS s false i 0) (.exit 2) (rkS s false i i)) (tq0 : (!withinB (Int.ofNat (ByteArray.size (At.key a))) (1 : Int) (16 : Int)) = false) (tq1 : (decide (Int.ofNat (ByteArray.size (At.val a)) > (16 : Int))) = false) : CodeC Try.prog 0 79 rsB (rsS s false i) .normal (rsS s false (i + 1)) :=
 runS hmix [.reg 4 [(4, [], some true)], .reg 6 [(5, [.row (At.row a)], none), (9, [], some false), (15, [.row (At.row a)], none), (18, [], some false)], .cut ⟨[1, 2, 3, 4], [(1000, 1000)], []⟩ (.exit 2) (rkS s false i i), .reg 5 [(1, [.be (I ((i + 1 : Nat) : Int))], none)], .tab [(77, FWithin)]] ⟨[1, 2, 3], [(1000, 1000)], []⟩ [⟨dltm At.row h⟩, ⟨nn i⟩, ⟨ltm At.row h⟩, ⟨gtm At.row hx⟩, ⟨(by exact cWithin _ _ _ : Contract Try.prog 77 [I (Int.ofNat (ByteArray.size (At.key a))), I 1, I 16] [] (Bo (withinB (Int.ofNat (ByteArray.size (At.key a))) 1 16)) [])⟩, ⟨tq0⟩, ⟨nn i⟩, ⟨ltm At.row h⟩, ⟨gtm At.row hx⟩, ⟨tq1⟩, ⟨hl⟩, ⟨w64 (i + 1) (by omega)⟩]

theorem rsXGo (s : Sp) (a : At) (i : Nat) (h : i < s.attrs.length) (hx : s.attrs[i]? = some a) (hs : s.attrs.length ≤ 4) (hl : LoopC Try.prog 0 79 rkB (rkS s false i 0) (.exit 2) (rkS s false i i)) (hb : badN a = false) : CodeC Try.prog 0 79 rsB (rsS s false i) .normal (rsS s false (i + 1)) := by
  rcases tf (!withinB (Int.ofNat (ByteArray.size (At.key a))) (1 : Int) (16 : Int)) with tq0 | tq0
  · exact absurd hb (by (try simp only [Int.ofNat_eq_natCast, List.length_map, Bool.not_eq_true', Bool.not_eq_false', decide_eq_true_eq, decide_eq_false_iff_not] at tq0); simp [badN, nameB, tq0])
  · rcases tf (decide (Int.ofNat (ByteArray.size (At.val a)) > (16 : Int))) with tq1 | tq1
    · exact absurd hb (by (try simp only [Int.ofNat_eq_natCast, List.length_map, Bool.not_eq_true', Bool.not_eq_false', decide_eq_true_eq, decide_eq_false_iff_not] at tq0 tq1); simp [badN, nameB, tq0, tq1])
    · exact rsX_2 s a i h hx hs hl tq0 tq1

theorem rsXStop (s : Sp) (a : At) (i : Nat) (h : i < s.attrs.length) (hx : s.attrs[i]? = some a) (hs : s.attrs.length ≤ 4) (hl : LoopC Try.prog 0 79 rkB (rkS s false i 0) (.exit 2) (rkS s false i i)) (hb : badN a = true) : CodeC Try.prog 0 79 rsB (rsS s false i) .ret (rsS s false i) := by
  rcases tf (!withinB (Int.ofNat (ByteArray.size (At.key a))) (1 : Int) (16 : Int)) with tq0 | tq0
  · exact rsX_0 s a i h hx hs hl tq0
  · rcases tf (decide (Int.ofNat (ByteArray.size (At.val a)) > (16 : Int))) with tq1 | tq1
    · exact rsX_1 s a i h hx hs hl tq0 tq1
    · exact absurd hb (by (try simp only [Int.ofNat_eq_natCast, List.length_map, Bool.not_eq_true', Bool.not_eq_false', decide_eq_true_eq, decide_eq_false_iff_not] at tq0 tq1); simp [badN, nameB, tq0, tq1])

theorem rsY_0 (s : Sp) (a : At) (i k : Nat) (h : i < s.attrs.length) (hx : s.attrs[i]? = some a) (hs : s.attrs.length ≤ 4) (hl : LoopC Try.prog 0 79 rkB (rkS s false i 0) .ret (rkS s false i k)) (tq0 : (!withinB (Int.ofNat (ByteArray.size (At.key a))) (1 : Int) (16 : Int)) = true) : CodeC Try.prog 0 79 rsB (rsS s false i) .ret (rsS s false i) :=
 runS hmix [.reg 4 [(4, [], some true)], .reg 6 [(5, [.row (At.row a)], none), (9, [], some true)], .tab [(77, FWithin)]] ⟨[1, 2, 3], [(1000, 1000)], []⟩ [⟨dltm At.row h⟩, ⟨nn i⟩, ⟨ltm At.row h⟩, ⟨gtm At.row hx⟩, ⟨(by exact cWithin _ _ _ : Contract Try.prog 77 [I (Int.ofNat (ByteArray.size (At.key a))), I 1, I 16] [] (Bo (withinB (Int.ofNat (ByteArray.size (At.key a))) 1 16)) [])⟩, ⟨tq0⟩]

theorem rsY_1 (s : Sp) (a : At) (i k : Nat) (h : i < s.attrs.length) (hx : s.attrs[i]? = some a) (hs : s.attrs.length ≤ 4) (hl : LoopC Try.prog 0 79 rkB (rkS s false i 0) .ret (rkS s false i k)) (tq0 : (!withinB (Int.ofNat (ByteArray.size (At.key a))) (1 : Int) (16 : Int)) = false) (tq1 : (decide (Int.ofNat (ByteArray.size (At.val a)) > (16 : Int))) = true) : CodeC Try.prog 0 79 rsB (rsS s false i) .ret (rsS s false i) :=
 runS hmix [.reg 4 [(4, [], some true)], .reg 6 [(5, [.row (At.row a)], none), (9, [], some false), (15, [.row (At.row a)], none), (18, [], some true)], .tab [(77, FWithin)]] ⟨[1, 2, 3], [(1000, 1000)], []⟩ [⟨dltm At.row h⟩, ⟨nn i⟩, ⟨ltm At.row h⟩, ⟨gtm At.row hx⟩, ⟨(by exact cWithin _ _ _ : Contract Try.prog 77 [I (Int.ofNat (ByteArray.size (At.key a))), I 1, I 16] [] (Bo (withinB (Int.ofNat (ByteArray.size (At.key a))) 1 16)) [])⟩, ⟨tq0⟩, ⟨nn i⟩, ⟨ltm At.row h⟩, ⟨gtm At.row hx⟩, ⟨tq1⟩]

theorem rsY_2 (s : Sp) (a : At) (i k : Nat) (h : i < s.attrs.length) (hx : s.attrs[i]? = some a) (hs : s.attrs.length ≤ 4) (hl : LoopC Try.prog 0 79 rkB (rkS s false i 0) .ret (rkS s false i k)) (tq0 : (!withinB (Int.ofNat (ByteArray.size (At.key a))) (1 : Int) (16 : Int)) = false) (tq1 : (decide (Int.ofNat (ByteArray.size (At.val a)) > (16 : Int))) = false) : CodeC Try.prog 0 79 rsB (rsS s false i) .ret (rsS s false i) :=
 runS hmix [.reg 4 [(4, [], some true)], .reg 6 [(5, [.row (At.row a)], none), (9, [], some false), (15, [.row (At.row a)], none), (18, [], some false)], .cut ⟨[1, 2, 3, 4], [(1000, 1000)], []⟩ .ret (rkS s false i k), .tab [(77, FWithin)]] ⟨[1, 2, 3], [(1000, 1000)], []⟩ [⟨dltm At.row h⟩, ⟨nn i⟩, ⟨ltm At.row h⟩, ⟨gtm At.row hx⟩, ⟨(by exact cWithin _ _ _ : Contract Try.prog 77 [I (Int.ofNat (ByteArray.size (At.key a))), I 1, I 16] [] (Bo (withinB (Int.ofNat (ByteArray.size (At.key a))) 1 16)) [])⟩, ⟨tq0⟩, ⟨nn i⟩, ⟨ltm At.row h⟩, ⟨gtm At.row hx⟩, ⟨tq1⟩, ⟨hl⟩]

theorem rsY (s : Sp) (a : At) (i k : Nat) (h : i < s.attrs.length) (hx : s.attrs[i]? = some a) (hs : s.attrs.length ≤ 4) (hl : LoopC Try.prog 0 79 rkB (rkS s false i 0) .ret (rkS s false i k))  : CodeC Try.prog 0 79 rsB (rsS s false i) .ret (rsS s false i) := by
  rcases tf (!withinB (Int.ofNat (ByteArray.size (At.key a))) (1 : Int) (16 : Int)) with tq0 | tq0
  · exact rsY_0 s a i k h hx hs hl tq0
  · rcases tf (decide (Int.ofNat (ByteArray.size (At.val a)) > (16 : Int))) with tq1 | tq1
    · exact rsY_1 s a i k h hx hs hl tq0 tq1
    · exact rsY_2 s a i k h hx hs hl tq0 tq1

theorem rsE (s : Sp) (i : Nat) (h : s.attrs.length ≤ i)  : CodeC Try.prog 0 79 rsB (rsS s false i) (.exit 0) (rsS s false i) :=
 runS hmix [.reg 4 [(4, [], some false)]] ⟨[1, 2, 3], [(1000, 1000)], []⟩ [⟨dgem At.row h⟩]

theorem rs1_0 (s : Sp) (i : Nat) (hl : LoopC Try.prog 0 79 rsB (rsS s false 0) .ret (rsS s false i)) (tq0 : (!withinB (Int.ofNat (ByteArray.size (Sp.svc s))) (1 : Int) (16 : Int)) = true) : Contract Try.prog 51 [s.v] [] (Bo false) [] :=
 vcS hmix [.reg 1 [(5, [], some true)], .tab [(77, FWithin)]] [] [⟨(by exact cWithin _ _ _ : Contract Try.prog 77 [I (Int.ofNat (ByteArray.size (Sp.svc s))), I 1, I 16] [] (Bo (withinB (Int.ofNat (ByteArray.size (Sp.svc s))) 1 16)) [])⟩, ⟨tq0⟩]

theorem rs1_1 (s : Sp) (i : Nat) (hl : LoopC Try.prog 0 79 rsB (rsS s false 0) .ret (rsS s false i)) (tq0 : (!withinB (Int.ofNat (ByteArray.size (Sp.svc s))) (1 : Int) (16 : Int)) = false) (tq1 : (!withinB (Int.ofNat (ByteArray.size (Sp.op s))) (1 : Int) (16 : Int)) = true) : Contract Try.prog 51 [s.v] [] (Bo false) [] :=
 vcS hmix [.reg 1 [(5, [], some false), (12, [], some true)], .tab [(77, FWithin)]] [] [⟨(by exact cWithin _ _ _ : Contract Try.prog 77 [I (Int.ofNat (ByteArray.size (Sp.svc s))), I 1, I 16] [] (Bo (withinB (Int.ofNat (ByteArray.size (Sp.svc s))) 1 16)) [])⟩, ⟨tq0⟩, ⟨(by exact cWithin _ _ _ : Contract Try.prog 77 [I (Int.ofNat (ByteArray.size (Sp.op s))), I 1, I 16] [] (Bo (withinB (Int.ofNat (ByteArray.size (Sp.op s))) 1 16)) [])⟩, ⟨tq1⟩]

theorem rs1_2 (s : Sp) (i : Nat) (hl : LoopC Try.prog 0 79 rsB (rsS s false 0) .ret (rsS s false i)) (tq0 : (!withinB (Int.ofNat (ByteArray.size (Sp.svc s))) (1 : Int) (16 : Int)) = false) (tq1 : (!withinB (Int.ofNat (ByteArray.size (Sp.op s))) (1 : Int) (16 : Int)) = false) (tq2 : (!withinB (Sp.start s) (0 : Int) (1099511627776 : Int)) = true) : Contract Try.prog 51 [s.v] [] (Bo false) [] :=
 vcS hmix [.reg 1 [(5, [], some false), (12, [], some false), (18, [], some true)], .tab [(77, FWithin)]] [] [⟨(by exact cWithin _ _ _ : Contract Try.prog 77 [I (Int.ofNat (ByteArray.size (Sp.svc s))), I 1, I 16] [] (Bo (withinB (Int.ofNat (ByteArray.size (Sp.svc s))) 1 16)) [])⟩, ⟨tq0⟩, ⟨(by exact cWithin _ _ _ : Contract Try.prog 77 [I (Int.ofNat (ByteArray.size (Sp.op s))), I 1, I 16] [] (Bo (withinB (Int.ofNat (ByteArray.size (Sp.op s))) 1 16)) [])⟩, ⟨tq1⟩, ⟨(by exact cWithin _ _ _ : Contract Try.prog 77 [I (Sp.start s), I 0, I 1099511627776] [] (Bo (withinB (Sp.start s) 0 1099511627776)) [])⟩, ⟨tq2⟩]

theorem rs1_3 (s : Sp) (i : Nat) (hl : LoopC Try.prog 0 79 rsB (rsS s false 0) .ret (rsS s false i)) (tq0 : (!withinB (Int.ofNat (ByteArray.size (Sp.svc s))) (1 : Int) (16 : Int)) = false) (tq1 : (!withinB (Int.ofNat (ByteArray.size (Sp.op s))) (1 : Int) (16 : Int)) = false) (tq2 : (!withinB (Sp.start s) (0 : Int) (1099511627776 : Int)) = false) (tq3 : (!withinB (Sp.dur s) (0 : Int) (1073741824 : Int)) = true) : Contract Try.prog 51 [s.v] [] (Bo false) [] :=
 vcS hmix [.reg 1 [(5, [], some false), (12, [], some false), (18, [], some false), (24, [], some true)], .tab [(77, FWithin)]] [] [⟨(by exact cWithin _ _ _ : Contract Try.prog 77 [I (Int.ofNat (ByteArray.size (Sp.svc s))), I 1, I 16] [] (Bo (withinB (Int.ofNat (ByteArray.size (Sp.svc s))) 1 16)) [])⟩, ⟨tq0⟩, ⟨(by exact cWithin _ _ _ : Contract Try.prog 77 [I (Int.ofNat (ByteArray.size (Sp.op s))), I 1, I 16] [] (Bo (withinB (Int.ofNat (ByteArray.size (Sp.op s))) 1 16)) [])⟩, ⟨tq1⟩, ⟨(by exact cWithin _ _ _ : Contract Try.prog 77 [I (Sp.start s), I 0, I 1099511627776] [] (Bo (withinB (Sp.start s) 0 1099511627776)) [])⟩, ⟨tq2⟩, ⟨(by exact cWithin _ _ _ : Contract Try.prog 77 [I (Sp.dur s), I 0, I 1073741824] [] (Bo (withinB (Sp.dur s) 0 1073741824)) [])⟩, ⟨tq3⟩]

theorem rs1_4 (s : Sp) (i : Nat) (hl : LoopC Try.prog 0 79 rsB (rsS s false 0) .ret (rsS s false i)) (tq0 : (!withinB (Int.ofNat (ByteArray.size (Sp.svc s))) (1 : Int) (16 : Int)) = false) (tq1 : (!withinB (Int.ofNat (ByteArray.size (Sp.op s))) (1 : Int) (16 : Int)) = false) (tq2 : (!withinB (Sp.start s) (0 : Int) (1099511627776 : Int)) = false) (tq3 : (!withinB (Sp.dur s) (0 : Int) (1073741824 : Int)) = false) (tq4 : (decide (Int.ofNat (List.length (List.map At.row (Sp.attrs s))) > (4 : Int))) = true) : Contract Try.prog 51 [s.v] [] (Bo false) [] :=
 vcS hmix [.reg 1 [(5, [], some false), (12, [], some false), (18, [], some false), (24, [], some false), (29, [], some true)], .tab [(77, FWithin)]] [] [⟨(by exact cWithin _ _ _ : Contract Try.prog 77 [I (Int.ofNat (ByteArray.size (Sp.svc s))), I 1, I 16] [] (Bo (withinB (Int.ofNat (ByteArray.size (Sp.svc s))) 1 16)) [])⟩, ⟨tq0⟩, ⟨(by exact cWithin _ _ _ : Contract Try.prog 77 [I (Int.ofNat (ByteArray.size (Sp.op s))), I 1, I 16] [] (Bo (withinB (Int.ofNat (ByteArray.size (Sp.op s))) 1 16)) [])⟩, ⟨tq1⟩, ⟨(by exact cWithin _ _ _ : Contract Try.prog 77 [I (Sp.start s), I 0, I 1099511627776] [] (Bo (withinB (Sp.start s) 0 1099511627776)) [])⟩, ⟨tq2⟩, ⟨(by exact cWithin _ _ _ : Contract Try.prog 77 [I (Sp.dur s), I 0, I 1073741824] [] (Bo (withinB (Sp.dur s) 0 1073741824)) [])⟩, ⟨tq3⟩, ⟨tq4⟩]

theorem rs1_5 (s : Sp) (i : Nat) (hl : LoopC Try.prog 0 79 rsB (rsS s false 0) .ret (rsS s false i)) (tq0 : (!withinB (Int.ofNat (ByteArray.size (Sp.svc s))) (1 : Int) (16 : Int)) = false) (tq1 : (!withinB (Int.ofNat (ByteArray.size (Sp.op s))) (1 : Int) (16 : Int)) = false) (tq2 : (!withinB (Sp.start s) (0 : Int) (1099511627776 : Int)) = false) (tq3 : (!withinB (Sp.dur s) (0 : Int) (1073741824 : Int)) = false) (tq4 : (decide (Int.ofNat (List.length (List.map At.row (Sp.attrs s))) > (4 : Int))) = false) : Contract Try.prog 51 [s.v] [] (Bo false) [] :=
 vcS hmix [.reg 1 [(5, [], some false), (12, [], some false), (18, [], some false), (24, [], some false), (29, [], some false)], .cut ⟨[1, 2, 3], [(1000, 1000)], []⟩ .ret (rsS s false i), .tab [(77, FWithin)]] [] [⟨(by exact cWithin _ _ _ : Contract Try.prog 77 [I (Int.ofNat (ByteArray.size (Sp.svc s))), I 1, I 16] [] (Bo (withinB (Int.ofNat (ByteArray.size (Sp.svc s))) 1 16)) [])⟩, ⟨tq0⟩, ⟨(by exact cWithin _ _ _ : Contract Try.prog 77 [I (Int.ofNat (ByteArray.size (Sp.op s))), I 1, I 16] [] (Bo (withinB (Int.ofNat (ByteArray.size (Sp.op s))) 1 16)) [])⟩, ⟨tq1⟩, ⟨(by exact cWithin _ _ _ : Contract Try.prog 77 [I (Sp.start s), I 0, I 1099511627776] [] (Bo (withinB (Sp.start s) 0 1099511627776)) [])⟩, ⟨tq2⟩, ⟨(by exact cWithin _ _ _ : Contract Try.prog 77 [I (Sp.dur s), I 0, I 1073741824] [] (Bo (withinB (Sp.dur s) 0 1073741824)) [])⟩, ⟨tq3⟩, ⟨tq4⟩, ⟨hl⟩]

theorem rs1 (s : Sp) (i : Nat) (hl : LoopC Try.prog 0 79 rsB (rsS s false 0) .ret (rsS s false i)) : Contract Try.prog 51 [s.v] [] (Bo false) [] := by
  rcases tf (!withinB (Int.ofNat (ByteArray.size (Sp.svc s))) (1 : Int) (16 : Int)) with tq0 | tq0
  · exact rs1_0 s i hl tq0
  · rcases tf (!withinB (Int.ofNat (ByteArray.size (Sp.op s))) (1 : Int) (16 : Int)) with tq1 | tq1
    · exact rs1_1 s i hl tq0 tq1
    · rcases tf (!withinB (Sp.start s) (0 : Int) (1099511627776 : Int)) with tq2 | tq2
      · exact rs1_2 s i hl tq0 tq1 tq2
      · rcases tf (!withinB (Sp.dur s) (0 : Int) (1073741824 : Int)) with tq3 | tq3
        · exact rs1_3 s i hl tq0 tq1 tq2 tq3
        · rcases tf (decide (Int.ofNat (List.length (List.map At.row (Sp.attrs s))) > (4 : Int))) with tq4 | tq4
          · exact rs1_4 s i hl tq0 tq1 tq2 tq3 tq4
          · exact rs1_5 s i hl tq0 tq1 tq2 tq3 tq4

theorem rs2_0 (s : Sp) (hl : LoopC Try.prog 0 79 rsB (rsS s false 0) (.exit 0) (rsS s false s.attrs.length)) (tq0 : (!withinB (Int.ofNat (ByteArray.size (Sp.svc s))) (1 : Int) (16 : Int)) = true) : Contract Try.prog 51 [s.v] [] (Bo false) ([]) :=
 vcS hmix [.reg 1 [(5, [], some true)], .tab [(77, FWithin)]] [] [⟨(by exact cWithin _ _ _ : Contract Try.prog 77 [I (Int.ofNat (ByteArray.size (Sp.svc s))), I 1, I 16] [] (Bo (withinB (Int.ofNat (ByteArray.size (Sp.svc s))) 1 16)) [])⟩, ⟨tq0⟩]

theorem rs2_1 (s : Sp) (hl : LoopC Try.prog 0 79 rsB (rsS s false 0) (.exit 0) (rsS s false s.attrs.length)) (tq0 : (!withinB (Int.ofNat (ByteArray.size (Sp.svc s))) (1 : Int) (16 : Int)) = false) (tq1 : (!withinB (Int.ofNat (ByteArray.size (Sp.op s))) (1 : Int) (16 : Int)) = true) : Contract Try.prog 51 [s.v] [] (Bo false) ([]) :=
 vcS hmix [.reg 1 [(5, [], some false), (12, [], some true)], .tab [(77, FWithin)]] [] [⟨(by exact cWithin _ _ _ : Contract Try.prog 77 [I (Int.ofNat (ByteArray.size (Sp.svc s))), I 1, I 16] [] (Bo (withinB (Int.ofNat (ByteArray.size (Sp.svc s))) 1 16)) [])⟩, ⟨tq0⟩, ⟨(by exact cWithin _ _ _ : Contract Try.prog 77 [I (Int.ofNat (ByteArray.size (Sp.op s))), I 1, I 16] [] (Bo (withinB (Int.ofNat (ByteArray.size (Sp.op s))) 1 16)) [])⟩, ⟨tq1⟩]

theorem rs2_2 (s : Sp) (hl : LoopC Try.prog 0 79 rsB (rsS s false 0) (.exit 0) (rsS s false s.attrs.length)) (tq0 : (!withinB (Int.ofNat (ByteArray.size (Sp.svc s))) (1 : Int) (16 : Int)) = false) (tq1 : (!withinB (Int.ofNat (ByteArray.size (Sp.op s))) (1 : Int) (16 : Int)) = false) (tq2 : (!withinB (Sp.start s) (0 : Int) (1099511627776 : Int)) = true) : Contract Try.prog 51 [s.v] [] (Bo false) ([]) :=
 vcS hmix [.reg 1 [(5, [], some false), (12, [], some false), (18, [], some true)], .tab [(77, FWithin)]] [] [⟨(by exact cWithin _ _ _ : Contract Try.prog 77 [I (Int.ofNat (ByteArray.size (Sp.svc s))), I 1, I 16] [] (Bo (withinB (Int.ofNat (ByteArray.size (Sp.svc s))) 1 16)) [])⟩, ⟨tq0⟩, ⟨(by exact cWithin _ _ _ : Contract Try.prog 77 [I (Int.ofNat (ByteArray.size (Sp.op s))), I 1, I 16] [] (Bo (withinB (Int.ofNat (ByteArray.size (Sp.op s))) 1 16)) [])⟩, ⟨tq1⟩, ⟨(by exact cWithin _ _ _ : Contract Try.prog 77 [I (Sp.start s), I 0, I 1099511627776] [] (Bo (withinB (Sp.start s) 0 1099511627776)) [])⟩, ⟨tq2⟩]

theorem rs2_3 (s : Sp) (hl : LoopC Try.prog 0 79 rsB (rsS s false 0) (.exit 0) (rsS s false s.attrs.length)) (tq0 : (!withinB (Int.ofNat (ByteArray.size (Sp.svc s))) (1 : Int) (16 : Int)) = false) (tq1 : (!withinB (Int.ofNat (ByteArray.size (Sp.op s))) (1 : Int) (16 : Int)) = false) (tq2 : (!withinB (Sp.start s) (0 : Int) (1099511627776 : Int)) = false) (tq3 : (!withinB (Sp.dur s) (0 : Int) (1073741824 : Int)) = true) : Contract Try.prog 51 [s.v] [] (Bo false) ([]) :=
 vcS hmix [.reg 1 [(5, [], some false), (12, [], some false), (18, [], some false), (24, [], some true)], .tab [(77, FWithin)]] [] [⟨(by exact cWithin _ _ _ : Contract Try.prog 77 [I (Int.ofNat (ByteArray.size (Sp.svc s))), I 1, I 16] [] (Bo (withinB (Int.ofNat (ByteArray.size (Sp.svc s))) 1 16)) [])⟩, ⟨tq0⟩, ⟨(by exact cWithin _ _ _ : Contract Try.prog 77 [I (Int.ofNat (ByteArray.size (Sp.op s))), I 1, I 16] [] (Bo (withinB (Int.ofNat (ByteArray.size (Sp.op s))) 1 16)) [])⟩, ⟨tq1⟩, ⟨(by exact cWithin _ _ _ : Contract Try.prog 77 [I (Sp.start s), I 0, I 1099511627776] [] (Bo (withinB (Sp.start s) 0 1099511627776)) [])⟩, ⟨tq2⟩, ⟨(by exact cWithin _ _ _ : Contract Try.prog 77 [I (Sp.dur s), I 0, I 1073741824] [] (Bo (withinB (Sp.dur s) 0 1073741824)) [])⟩, ⟨tq3⟩]

theorem rs2_4 (s : Sp) (hl : LoopC Try.prog 0 79 rsB (rsS s false 0) (.exit 0) (rsS s false s.attrs.length)) (tq0 : (!withinB (Int.ofNat (ByteArray.size (Sp.svc s))) (1 : Int) (16 : Int)) = false) (tq1 : (!withinB (Int.ofNat (ByteArray.size (Sp.op s))) (1 : Int) (16 : Int)) = false) (tq2 : (!withinB (Sp.start s) (0 : Int) (1099511627776 : Int)) = false) (tq3 : (!withinB (Sp.dur s) (0 : Int) (1073741824 : Int)) = false) (tq4 : (decide (Int.ofNat (List.length (List.map At.row (Sp.attrs s))) > (4 : Int))) = true) : Contract Try.prog 51 [s.v] [] (Bo false) ([]) :=
 vcS hmix [.reg 1 [(5, [], some false), (12, [], some false), (18, [], some false), (24, [], some false), (29, [], some true)], .tab [(77, FWithin)]] [] [⟨(by exact cWithin _ _ _ : Contract Try.prog 77 [I (Int.ofNat (ByteArray.size (Sp.svc s))), I 1, I 16] [] (Bo (withinB (Int.ofNat (ByteArray.size (Sp.svc s))) 1 16)) [])⟩, ⟨tq0⟩, ⟨(by exact cWithin _ _ _ : Contract Try.prog 77 [I (Int.ofNat (ByteArray.size (Sp.op s))), I 1, I 16] [] (Bo (withinB (Int.ofNat (ByteArray.size (Sp.op s))) 1 16)) [])⟩, ⟨tq1⟩, ⟨(by exact cWithin _ _ _ : Contract Try.prog 77 [I (Sp.start s), I 0, I 1099511627776] [] (Bo (withinB (Sp.start s) 0 1099511627776)) [])⟩, ⟨tq2⟩, ⟨(by exact cWithin _ _ _ : Contract Try.prog 77 [I (Sp.dur s), I 0, I 1073741824] [] (Bo (withinB (Sp.dur s) 0 1073741824)) [])⟩, ⟨tq3⟩, ⟨tq4⟩]

theorem rs2_5 (s : Sp) (hl : LoopC Try.prog 0 79 rsB (rsS s false 0) (.exit 0) (rsS s false s.attrs.length)) (tq0 : (!withinB (Int.ofNat (ByteArray.size (Sp.svc s))) (1 : Int) (16 : Int)) = false) (tq1 : (!withinB (Int.ofNat (ByteArray.size (Sp.op s))) (1 : Int) (16 : Int)) = false) (tq2 : (!withinB (Sp.start s) (0 : Int) (1099511627776 : Int)) = false) (tq3 : (!withinB (Sp.dur s) (0 : Int) (1073741824 : Int)) = false) (tq4 : (decide (Int.ofNat (List.length (List.map At.row (Sp.attrs s))) > (4 : Int))) = false) : Contract Try.prog 51 [s.v] [] (Bo true) ([]) :=
 vcS hmix [.reg 1 [(5, [], some false), (12, [], some false), (18, [], some false), (24, [], some false), (29, [], some false)], .cut ⟨[1, 2, 3], [(1000, 1000)], []⟩ (.exit 0) (rsS s false s.attrs.length), .tab [(77, FWithin)]] [] [⟨(by exact cWithin _ _ _ : Contract Try.prog 77 [I (Int.ofNat (ByteArray.size (Sp.svc s))), I 1, I 16] [] (Bo (withinB (Int.ofNat (ByteArray.size (Sp.svc s))) 1 16)) [])⟩, ⟨tq0⟩, ⟨(by exact cWithin _ _ _ : Contract Try.prog 77 [I (Int.ofNat (ByteArray.size (Sp.op s))), I 1, I 16] [] (Bo (withinB (Int.ofNat (ByteArray.size (Sp.op s))) 1 16)) [])⟩, ⟨tq1⟩, ⟨(by exact cWithin _ _ _ : Contract Try.prog 77 [I (Sp.start s), I 0, I 1099511627776] [] (Bo (withinB (Sp.start s) 0 1099511627776)) [])⟩, ⟨tq2⟩, ⟨(by exact cWithin _ _ _ : Contract Try.prog 77 [I (Sp.dur s), I 0, I 1073741824] [] (Bo (withinB (Sp.dur s) 0 1073741824)) [])⟩, ⟨tq3⟩, ⟨tq4⟩, ⟨hl⟩]

theorem rs2 (s : Sp) (hl : LoopC Try.prog 0 79 rsB (rsS s false 0) (.exit 0) (rsS s false s.attrs.length)) : Contract Try.prog 51 [s.v] [] (Bo (nameB s.svc && nameB s.op && withinB s.start 0 1099511627776 && withinB s.dur 0 1073741824 && decide ((s.attrs.length : Int) ≤ 4))) [] := by
  rcases tf (!withinB (Int.ofNat (ByteArray.size (Sp.svc s))) (1 : Int) (16 : Int)) with tq0 | tq0
  · exact Contract.cast (by (try simp only [Int.ofNat_eq_natCast, List.length_map, Bool.not_eq_true', Bool.not_eq_false', decide_eq_true_eq, decide_eq_false_iff_not] at tq0); simp [nameB, tq0]) rfl (rs2_0 s hl tq0)
  · rcases tf (!withinB (Int.ofNat (ByteArray.size (Sp.op s))) (1 : Int) (16 : Int)) with tq1 | tq1
    · exact Contract.cast (by (try simp only [Int.ofNat_eq_natCast, List.length_map, Bool.not_eq_true', Bool.not_eq_false', decide_eq_true_eq, decide_eq_false_iff_not] at tq0 tq1); simp [nameB, tq0, tq1]) rfl (rs2_1 s hl tq0 tq1)
    · rcases tf (!withinB (Sp.start s) (0 : Int) (1099511627776 : Int)) with tq2 | tq2
      · exact Contract.cast (by (try simp only [Int.ofNat_eq_natCast, List.length_map, Bool.not_eq_true', Bool.not_eq_false', decide_eq_true_eq, decide_eq_false_iff_not] at tq0 tq1 tq2); simp [nameB, tq0, tq1, tq2]) rfl (rs2_2 s hl tq0 tq1 tq2)
      · rcases tf (!withinB (Sp.dur s) (0 : Int) (1073741824 : Int)) with tq3 | tq3
        · exact Contract.cast (by (try simp only [Int.ofNat_eq_natCast, List.length_map, Bool.not_eq_true', Bool.not_eq_false', decide_eq_true_eq, decide_eq_false_iff_not] at tq0 tq1 tq2 tq3); simp [nameB, tq0, tq1, tq2, tq3]) rfl (rs2_3 s hl tq0 tq1 tq2 tq3)
        · rcases tf (decide (Int.ofNat (List.length (List.map At.row (Sp.attrs s))) > (4 : Int))) with tq4 | tq4
          · exact Contract.cast (by (try simp only [Int.ofNat_eq_natCast, List.length_map, Bool.not_eq_true', Bool.not_eq_false', decide_eq_true_eq, decide_eq_false_iff_not] at tq0 tq1 tq2 tq3 tq4); refine congrArg _ ?_; simp [nameB, tq0, tq1, tq2, tq3, tq4]) rfl (rs2_4 s hl tq0 tq1 tq2 tq3 tq4)
          · exact Contract.cast (by (try simp only [Int.ofNat_eq_natCast, List.length_map, Bool.not_eq_true', Bool.not_eq_false', decide_eq_true_eq, decide_eq_false_iff_not] at tq0 tq1 tq2 tq3 tq4); refine congrArg _ ?_; simp [nameB, tq0, tq1, tq2, tq3, tq4]; omega) rfl (rs2_5 s hl tq0 tq1 tq2 tq3 tq4)

theorem rs3_0 (s : Sp) (h : decide ((s.attrs.length : Int) ≤ 4) = false) (tq0 : (!withinB (Int.ofNat (ByteArray.size (Sp.svc s))) (1 : Int) (16 : Int)) = true) : Contract Try.prog 51 [s.v] [] (Bo false) [] :=
 vcS hmix [.reg 1 [(5, [], some true), (28, [], some true)], .tab [(77, FWithin)]] [] [⟨(by exact cWithin _ _ _ : Contract Try.prog 77 [I (Int.ofNat (ByteArray.size (Sp.svc s))), I 1, I 16] [] (Bo (withinB (Int.ofNat (ByteArray.size (Sp.svc s))) 1 16)) [])⟩, ⟨tq0⟩]

theorem rs3_1 (s : Sp) (h : decide ((s.attrs.length : Int) ≤ 4) = false) (tq0 : (!withinB (Int.ofNat (ByteArray.size (Sp.svc s))) (1 : Int) (16 : Int)) = false) (tq1 : (!withinB (Int.ofNat (ByteArray.size (Sp.op s))) (1 : Int) (16 : Int)) = true) : Contract Try.prog 51 [s.v] [] (Bo false) [] :=
 vcS hmix [.reg 1 [(5, [], some false), (12, [], some true), (28, [], some true)], .tab [(77, FWithin)]] [] [⟨(by exact cWithin _ _ _ : Contract Try.prog 77 [I (Int.ofNat (ByteArray.size (Sp.svc s))), I 1, I 16] [] (Bo (withinB (Int.ofNat (ByteArray.size (Sp.svc s))) 1 16)) [])⟩, ⟨tq0⟩, ⟨(by exact cWithin _ _ _ : Contract Try.prog 77 [I (Int.ofNat (ByteArray.size (Sp.op s))), I 1, I 16] [] (Bo (withinB (Int.ofNat (ByteArray.size (Sp.op s))) 1 16)) [])⟩, ⟨tq1⟩]

theorem rs3_2 (s : Sp) (h : decide ((s.attrs.length : Int) ≤ 4) = false) (tq0 : (!withinB (Int.ofNat (ByteArray.size (Sp.svc s))) (1 : Int) (16 : Int)) = false) (tq1 : (!withinB (Int.ofNat (ByteArray.size (Sp.op s))) (1 : Int) (16 : Int)) = false) (tq2 : (!withinB (Sp.start s) (0 : Int) (1099511627776 : Int)) = true) : Contract Try.prog 51 [s.v] [] (Bo false) [] :=
 vcS hmix [.reg 1 [(5, [], some false), (12, [], some false), (18, [], some true), (28, [], some true)], .tab [(77, FWithin)]] [] [⟨(by exact cWithin _ _ _ : Contract Try.prog 77 [I (Int.ofNat (ByteArray.size (Sp.svc s))), I 1, I 16] [] (Bo (withinB (Int.ofNat (ByteArray.size (Sp.svc s))) 1 16)) [])⟩, ⟨tq0⟩, ⟨(by exact cWithin _ _ _ : Contract Try.prog 77 [I (Int.ofNat (ByteArray.size (Sp.op s))), I 1, I 16] [] (Bo (withinB (Int.ofNat (ByteArray.size (Sp.op s))) 1 16)) [])⟩, ⟨tq1⟩, ⟨(by exact cWithin _ _ _ : Contract Try.prog 77 [I (Sp.start s), I 0, I 1099511627776] [] (Bo (withinB (Sp.start s) 0 1099511627776)) [])⟩, ⟨tq2⟩]

theorem rs3_3 (s : Sp) (h : decide ((s.attrs.length : Int) ≤ 4) = false) (tq0 : (!withinB (Int.ofNat (ByteArray.size (Sp.svc s))) (1 : Int) (16 : Int)) = false) (tq1 : (!withinB (Int.ofNat (ByteArray.size (Sp.op s))) (1 : Int) (16 : Int)) = false) (tq2 : (!withinB (Sp.start s) (0 : Int) (1099511627776 : Int)) = false) (tq3 : (!withinB (Sp.dur s) (0 : Int) (1073741824 : Int)) = true) : Contract Try.prog 51 [s.v] [] (Bo false) [] :=
 vcS hmix [.reg 1 [(5, [], some false), (12, [], some false), (18, [], some false), (24, [], some true), (28, [], some true)], .tab [(77, FWithin)]] [] [⟨(by exact cWithin _ _ _ : Contract Try.prog 77 [I (Int.ofNat (ByteArray.size (Sp.svc s))), I 1, I 16] [] (Bo (withinB (Int.ofNat (ByteArray.size (Sp.svc s))) 1 16)) [])⟩, ⟨tq0⟩, ⟨(by exact cWithin _ _ _ : Contract Try.prog 77 [I (Int.ofNat (ByteArray.size (Sp.op s))), I 1, I 16] [] (Bo (withinB (Int.ofNat (ByteArray.size (Sp.op s))) 1 16)) [])⟩, ⟨tq1⟩, ⟨(by exact cWithin _ _ _ : Contract Try.prog 77 [I (Sp.start s), I 0, I 1099511627776] [] (Bo (withinB (Sp.start s) 0 1099511627776)) [])⟩, ⟨tq2⟩, ⟨(by exact cWithin _ _ _ : Contract Try.prog 77 [I (Sp.dur s), I 0, I 1073741824] [] (Bo (withinB (Sp.dur s) 0 1073741824)) [])⟩, ⟨tq3⟩]

theorem rs3_4 (s : Sp) (h : decide ((s.attrs.length : Int) ≤ 4) = false) (tq0 : (!withinB (Int.ofNat (ByteArray.size (Sp.svc s))) (1 : Int) (16 : Int)) = false) (tq1 : (!withinB (Int.ofNat (ByteArray.size (Sp.op s))) (1 : Int) (16 : Int)) = false) (tq2 : (!withinB (Sp.start s) (0 : Int) (1099511627776 : Int)) = false) (tq3 : (!withinB (Sp.dur s) (0 : Int) (1073741824 : Int)) = false) : Contract Try.prog 51 [s.v] [] (Bo false) [] :=
 vcS hmix [.reg 1 [(5, [], some false), (12, [], some false), (18, [], some false), (24, [], some false), (28, [], some true)], .tab [(77, FWithin)]] [] [⟨(by exact cWithin _ _ _ : Contract Try.prog 77 [I (Int.ofNat (ByteArray.size (Sp.svc s))), I 1, I 16] [] (Bo (withinB (Int.ofNat (ByteArray.size (Sp.svc s))) 1 16)) [])⟩, ⟨tq0⟩, ⟨(by exact cWithin _ _ _ : Contract Try.prog 77 [I (Int.ofNat (ByteArray.size (Sp.op s))), I 1, I 16] [] (Bo (withinB (Int.ofNat (ByteArray.size (Sp.op s))) 1 16)) [])⟩, ⟨tq1⟩, ⟨(by exact cWithin _ _ _ : Contract Try.prog 77 [I (Sp.start s), I 0, I 1099511627776] [] (Bo (withinB (Sp.start s) 0 1099511627776)) [])⟩, ⟨tq2⟩, ⟨(by exact cWithin _ _ _ : Contract Try.prog 77 [I (Sp.dur s), I 0, I 1073741824] [] (Bo (withinB (Sp.dur s) 0 1073741824)) [])⟩, ⟨tq3⟩, ⟨(by simp at h ⊢; omega : decide (Int.ofNat (List.length (List.map At.row (Sp.attrs s))) > 4) = true)⟩]

theorem rs3 (s : Sp) (h : decide ((s.attrs.length : Int) ≤ 4) = false) : Contract Try.prog 51 [s.v] [] (Bo false) [] := by
  rcases tf (!withinB (Int.ofNat (ByteArray.size (Sp.svc s))) (1 : Int) (16 : Int)) with tq0 | tq0
  · exact rs3_0 s h tq0
  · rcases tf (!withinB (Int.ofNat (ByteArray.size (Sp.op s))) (1 : Int) (16 : Int)) with tq1 | tq1
    · exact rs3_1 s h tq0 tq1
    · rcases tf (!withinB (Sp.start s) (0 : Int) (1099511627776 : Int)) with tq2 | tq2
      · exact rs3_2 s h tq0 tq1 tq2
      · rcases tf (!withinB (Sp.dur s) (0 : Int) (1073741824 : Int)) with tq3 | tq3
        · exact rs3_3 s h tq0 tq1 tq2 tq3
        · exact rs3_4 s h tq0 tq1 tq2 tq3

theorem cRightR (s : Sp) : Contract Try.prog 51 [s.v] [] (Bo (rightS s)) [] := by
  unfold rightS
  rcases tf (decide ((s.attrs.length : Int) ≤ 4)) with h3 | h3
  · have hs : s.attrs.length ≤ 4 := by simp at h3; omega
    have hin : ∀ (i : Nat) (a : At), s.attrs[i]? = some a → (∃ j, LoopC Try.prog 0 79 rkB (rkS s false i 0) .ret (rkS s false i j) ∧ badA s.attrs i a = true) ∨ (LoopC Try.prog 0 79 rkB (rkS s false i 0) (.exit 2) (rkS s false i i) ∧ badA s.attrs i a = badN a) := by
      intro i a hx
      have hi := (List.getElem?_eq_some_iff.1 hx).1
      have e : (s.attrs.take i).length = i := by simp; omega
      have hy : ∀ (j : Nat) (b : At), (s.attrs.take i)[j]? = some b → j < i ∧ s.attrs[j]? = some b := fun j b h => by
        have h1 := (List.getElem?_eq_some_iff.1 h).1
        rw [e] at h1
        refine ⟨h1, ?_⟩
        rw [List.getElem?_take_of_lt h1] at h
        exact h
      rcases LoopC.search (P := Try.prog) (k := 0) (n := 79) (c := rkB) (s.attrs.take i) (fun _ b => pKey a b) (fun k => rkS s false i k) (fun k => rkS s false i k) (e1 := .ret) (e2 := .exit 2) (by simp) (by simp)
        (fun k b hb _ hp => rkGo s a b i k (hy k b hb).1 hx hi (hy k b hb).2 hs hp) (fun k b hb _ hp => rkStop s a b i k (hy k b hb).1 hx hi (hy k b hb).2 hs hp) (rkE s i _ (by omega)) with ⟨j, b, k1, k2, _, k4⟩ | ⟨k1, k2⟩
      · refine .inl ⟨j, k4, ?_⟩
        unfold badA
        rw [Bool.or_eq_true]
        right
        unfold idxI
        cases hf : (s.attrs.take i).findIdx? (pKey a) with
        | some m => simp
        | none => rw [List.findIdx?_eq_none_iff] at hf; have := hf b (List.mem_of_getElem? k1); rw [this] at k2; cases k2
      · refine .inr ⟨by rw [e] at k2; exact k2, ?_⟩
        unfold badA badN
        have : idxI (pKey a) (s.attrs.take i) = -1 := by
          unfold idxI
          cases hf : (s.attrs.take i).findIdx? (pKey a) with
          | none => rfl
          | some m => 
            obtain ⟨q1, q2, _⟩ := List.findIdx?_eq_some_iff_getElem.1 hf
            have := k1 m _ (List.getElem?_eq_getElem q1)
            rw [this] at q2; cases q2
        rw [this]; simp
    rcases LoopC.search (P := Try.prog) (k := 0) (n := 79) (c := rsB) s.attrs (badA s.attrs) (fun i => rsS s false i) (fun i => rsS s false i) (e1 := .ret) (e2 := .exit 0) (by simp) (by simp)
      (fun i a hx hi hb => by
        rcases hin i a hx with ⟨j, _, k2⟩ | ⟨k1, k2⟩
        · rw [k2] at hb; cases hb
        · exact rsXGo s a i hi hx hs k1 (k2 ▸ hb))
      (fun i a hx hi hb => by
        rcases hin i a hx with ⟨j, k1, k2⟩ | ⟨k1, k2⟩
        · exact rsY s a i j hi hx hs k1
        · exact rsXStop s a i hi hx hs k1 (k2 ▸ hb)) (rsE s _ (Nat.le_refl _)) with ⟨i, a, k1, k2, _, k4⟩ | ⟨k1, k2⟩
    · rw [attrs_bad k1 k2, Bool.and_false]; exact rs1 s i k4
    · rw [attrs_good k1]
      simp only [h3, Bool.and_true]
      have := rs2 s k2
      simp only [h3, Bool.and_true] at this
      exact this
  · rw [h3]; simp only [Bool.and_false, Bool.false_and]; exact rs3 s h3
end Go.Proofs.Ytdomjccibhgbjaa

