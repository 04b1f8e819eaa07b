/- Proved here: whatever the input, gleaninglaw8.BucketCounts returns true and leaves what it is handed as it was. No conditions beyond the row. -/
import Derived.Test.YtfaoiniaphmjnaaRows
import Derived.Test.YtfaoiniaphmjnaaBucB
namespace Go.Proofs.Ytfaoiniaphmjnaa
open E Go.ChangeShapes Go.WideShapes Go.ChangeAt Go.RowKit
set_option maxRecDepth 100000

def cells (f : Nat → Int) : List V := [I (f 0), I (f 1), I (f 2), I (f 3), I (f 4), I (f 5), I (f 6), I (f 7), I (f 8), I (f 9)]
def sB (rd re : List (List V)) (m i : Int) (f g : Nat → Int) : SL :=
  ⟨[(0, .sl 1 rd), (1, .sl 1 re), (2, I m), (8, .ptr 801000 0 0 0), (9, .ptr 802000 0 0 0), (10, I i)], [(801000, .box (cells f)), (802000, .box (cells g))], [801000, 802000]⟩
def upd (f : Nat → Int) (m : Int) (k : Nat) : Nat → Int := fun j => bif decide (f k < m) then (bif j == k then IntKind.i64.wrap (f k + 1) else f j) else f j
def nm : Norm := ⟨[0, 1, 2, 8, 9, 10], [(801000, 801000), (802000, 802000)], []⟩
noncomputable def body4 : Code := codeAt Try.prog 4 [true,true,true,true,false,true,false,false]
def inI (n : Int) : Prop := -9223372036854775808 ≤ n ∧ n ≤ 9223372036854775807
theorem wrap64 {n : Int} (h : inI n) : IntKind.i64.wrap n = n := by
  unfold inI at h
  simp only [IntKind.wrap]
  simp [IntKind.signed, IntKind.bits]
  omega
def spd (d : Int) (e : Bool) : Sp := ⟨0, 0, 0, 0, ByteArray.empty, ByteArray.empty, 0, d, e, []⟩

theorem r0f (rd re : List (List V)) (m i d : Int) (f : Nat → Int) (h1 : decide (i < (rd.length : Int)) = true) (h2 : rd[i.toNat]? = some [I d]) (h3 : re[i.toNat]? = some [Bo false]) (h4 : 0 ≤ i) (h5 : i < (re.length : Int)) (h6 : ofR d = 0) :
    CodeC Try.prog 0 97 body4 (sB rd re m i f f) .normal (sB rd re m (IntKind.i64.wrap (i + 1)) (joinF plusR f (oneF (ofR d) false) m) (upd (upd f m 0) m 2)) :=
  have h7 : i < (rd.length : Int) := of_decide_eq_true h1
  runP hmix [.reg 6 [(3, [], some true)], .reg 8 [(4, [.row [I d]], none), (8, [.row [Bo false]], none)], .fork 57 [] [], .reg 11 [(3, [.row [Bo false]], none)], .reg 13 [(3, [.row [I d]], none)], .reg 14 [(2, [.idx 0], none)], .fork 86 [.reg 15 [(2, [.idx 0], none), (6, [.idx 0], none)]] [], .tab [(8, F8), (9, F8), (10, F10)]] nm
    [decide (i < (rd.length : Int)) = true, 0 ≤ i, i < (rd.length : Int), rd[i.toNat]? = some [I d], 0 ≤ i, i < (re.length : Int), re[i.toNat]? = some [Bo false],
      Contract Try.prog 10 [ctr f, (spd d false).v, I m] [] (ctr (joinF plusR f (oneF (ofR d) false) m)) [], 0 ≤ i, i < (re.length : Int), re[i.toNat]? = some [Bo false], 0 ≤ i, i < (rd.length : Int), rd[i.toNat]? = some [I d],
      Contract Try.prog 9 [I d] [] (I (ofR d)) [], ofR d = 0, decide ((upd f m 0) 2 < m) = true → allP [ofR d = 0, ofR d = 0]] (by kernel_rfl)
    ⟨h1, h4, h7, h2, h4, h5, h3, c10 f (spd d false) m, h4, h5, h3, h4, h7, h2, c9 d, h6, fun _ => ⟨h6, h6⟩⟩

theorem r1f (rd re : List (List V)) (m i d : Int) (f : Nat → Int) (h1 : decide (i < (rd.length : Int)) = true) (h2 : rd[i.toNat]? = some [I d]) (h3 : re[i.toNat]? = some [Bo false]) (h4 : 0 ≤ i) (h5 : i < (re.length : Int)) (h6 : ofR d = 1) :
    CodeC Try.prog 0 97 body4 (sB rd re m i f f) .normal (sB rd re m (IntKind.i64.wrap (i + 1)) (joinF plusR f (oneF (ofR d) false) m) (upd (upd f m 0) m 3)) :=
  have h7 : i < (rd.length : Int) := of_decide_eq_true h1
  runP hmix [.reg 6 [(3, [], some true)], .reg 8 [(4, [.row [I d]], none), (8, [.row [Bo false]], none)], .fork 57 [] [], .reg 11 [(3, [.row [Bo false]], none)], .reg 13 [(3, [.row [I d]], none)], .reg 14 [(2, [.idx 1], none)], .fork 86 [.reg 15 [(2, [.idx 1], none), (6, [.idx 1], none)]] [], .tab [(8, F8), (9, F8), (10, F10)]] nm
    [decide (i < (rd.length : Int)) = true, 0 ≤ i, i < (rd.length : Int), rd[i.toNat]? = some [I d], 0 ≤ i, i < (re.length : Int), re[i.toNat]? = some [Bo false],
      Contract Try.prog 10 [ctr f, (spd d false).v, I m] [] (ctr (joinF plusR f (oneF (ofR d) false) m)) [], 0 ≤ i, i < (re.length : Int), re[i.toNat]? = some [Bo false], 0 ≤ i, i < (rd.length : Int), rd[i.toNat]? = some [I d],
      Contract Try.prog 9 [I d] [] (I (ofR d)) [], ofR d = 1, decide ((upd f m 0) 3 < m) = true → allP [ofR d = 1, ofR d = 1]] (by kernel_rfl)
    ⟨h1, h4, h7, h2, h4, h5, h3, c10 f (spd d false) m, h4, h5, h3, h4, h7, h2, c9 d, h6, fun _ => ⟨h6, h6⟩⟩

theorem r2f (rd re : List (List V)) (m i d : Int) (f : Nat → Int) (h1 : decide (i < (rd.length : Int)) = true) (h2 : rd[i.toNat]? = some [I d]) (h3 : re[i.toNat]? = some [Bo false]) (h4 : 0 ≤ i) (h5 : i < (re.length : Int)) (h6 : ofR d = 2) :
    CodeC Try.prog 0 97 body4 (sB rd re m i f f) .normal (sB rd re m (IntKind.i64.wrap (i + 1)) (joinF plusR f (oneF (ofR d) false) m) (upd (upd f m 0) m 4)) :=
  have h7 : i < (rd.length : Int) := of_decide_eq_true h1
  runP hmix [.reg 6 [(3, [], some true)], .reg 8 [(4, [.row [I d]], none), (8, [.row [Bo false]], none)], .fork 57 [] [], .reg 11 [(3, [.row [Bo false]], none)], .reg 13 [(3, [.row [I d]], none)], .reg 14 [(2, [.idx 2], none)], .fork 86 [.reg 15 [(2, [.idx 2], none), (6, [.idx 2], none)]] [], .tab [(8, F8), (9, F8), (10, F10)]] nm
    [decide (i < (rd.length : Int)) = true, 0 ≤ i, i < (rd.length : Int), rd[i.toNat]? = some [I d], 0 ≤ i, i < (re.length : Int), re[i.toNat]? = some [Bo false],
      Contract Try.prog 10 [ctr f, (spd d false).v, I m] [] (ctr (joinF plusR f (oneF (ofR d) false) m)) [], 0 ≤ i, i < (re.length : Int), re[i.toNat]? = some [Bo false], 0 ≤ i, i < (rd.length : Int), rd[i.toNat]? = some [I d],
      Contract Try.prog 9 [I d] [] (I (ofR d)) [], ofR d = 2, decide ((upd f m 0) 4 < m) = true → allP [ofR d = 2, ofR d = 2]] (by kernel_rfl)
    ⟨h1, h4, h7, h2, h4, h5, h3, c10 f (spd d false) m, h4, h5, h3, h4, h7, h2, c9 d, h6, fun _ => ⟨h6, h6⟩⟩

theorem r3f (rd re : List (List V)) (m i d : Int) (f : Nat → Int) (h1 : decide (i < (rd.length : Int)) = true) (h2 : rd[i.toNat]? = some [I d]) (h3 : re[i.toNat]? = some [Bo false]) (h4 : 0 ≤ i) (h5 : i < (re.length : Int)) (h6 : ofR d = 3) :
    CodeC Try.prog 0 97 body4 (sB rd re m i f f) .normal (sB rd re m (IntKind.i64.wrap (i + 1)) (joinF plusR f (oneF (ofR d) false) m) (upd (upd f m 0) m 5)) :=
  have h7 : i < (rd.length : Int) := of_decide_eq_true h1
  runP hmix [.reg 6 [(3, [], some true)], .reg 8 [(4, [.row [I d]], none), (8, [.row [Bo false]], none)], .fork 57 [] [], .reg 11 [(3, [.row [Bo false]], none)], .reg 13 [(3, [.row [I d]], none)], .reg 14 [(2, [.idx 3], none)], .fork 86 [.reg 15 [(2, [.idx 3], none), (6, [.idx 3], none)]] [], .tab [(8, F8), (9, F8), (10, F10)]] nm
    [decide (i < (rd.length : Int)) = true, 0 ≤ i, i < (rd.length : Int), rd[i.toNat]? = some [I d], 0 ≤ i, i < (re.length : Int), re[i.toNat]? = some [Bo false],
      Contract Try.prog 10 [ctr f, (spd d false).v, I m] [] (ctr (joinF plusR f (oneF (ofR d) false) m)) [], 0 ≤ i, i < (re.length : Int), re[i.toNat]? = some [Bo false], 0 ≤ i, i < (rd.length : Int), rd[i.toNat]? = some [I d],
      Contract Try.prog 9 [I d] [] (I (ofR d)) [], ofR d = 3, decide ((upd f m 0) 5 < m) = true → allP [ofR d = 3, ofR d = 3]] (by kernel_rfl)
    ⟨h1, h4, h7, h2, h4, h5, h3, c10 f (spd d false) m, h4, h5, h3, h4, h7, h2, c9 d, h6, fun _ => ⟨h6, h6⟩⟩

theorem r4f (rd re : List (List V)) (m i d : Int) (f : Nat → Int) (h1 : decide (i < (rd.length : Int)) = true) (h2 : rd[i.toNat]? = some [I d]) (h3 : re[i.toNat]? = some [Bo false]) (h4 : 0 ≤ i) (h5 : i < (re.length : Int)) (h6 : ofR d = 4) :
    CodeC Try.prog 0 97 body4 (sB rd re m i f f) .normal (sB rd re m (IntKind.i64.wrap (i + 1)) (joinF plusR f (oneF (ofR d) false) m) (upd (upd f m 0) m 6)) :=
  have h7 : i < (rd.length : Int) := of_decide_eq_true h1
  runP hmix [.reg 6 [(3, [], some true)], .reg 8 [(4, [.row [I d]], none), (8, [.row [Bo false]], none)], .fork 57 [] [], .reg 11 [(3, [.row [Bo false]], none)], .reg 13 [(3, [.row [I d]], none)], .reg 14 [(2, [.idx 4], none)], .fork 86 [.reg 15 [(2, [.idx 4], none), (6, [.idx 4], none)]] [], .tab [(8, F8), (9, F8), (10, F10)]] nm
    [decide (i < (rd.length : Int)) = true, 0 ≤ i, i < (rd.length : Int), rd[i.toNat]? = some [I d], 0 ≤ i, i < (re.length : Int), re[i.toNat]? = some [Bo false],
      Contract Try.prog 10 [ctr f, (spd d false).v, I m] [] (ctr (joinF plusR f (oneF (ofR d) false) m)) [], 0 ≤ i, i < (re.length : Int), re[i.toNat]? = some [Bo false], 0 ≤ i, i < (rd.length : Int), rd[i.toNat]? = some [I d],
      Contract Try.prog 9 [I d] [] (I (ofR d)) [], ofR d = 4, decide ((upd f m 0) 6 < m) = true → allP [ofR d = 4, ofR d = 4]] (by kernel_rfl)
    ⟨h1, h4, h7, h2, h4, h5, h3, c10 f (spd d false) m, h4, h5, h3, h4, h7, h2, c9 d, h6, fun _ => ⟨h6, h6⟩⟩

theorem r5f (rd re : List (List V)) (m i d : Int) (f : Nat → Int) (h1 : decide (i < (rd.length : Int)) = true) (h2 : rd[i.toNat]? = some [I d]) (h3 : re[i.toNat]? = some [Bo false]) (h4 : 0 ≤ i) (h5 : i < (re.length : Int)) (h6 : ofR d = 5) :
    CodeC Try.prog 0 97 body4 (sB rd re m i f f) .normal (sB rd re m (IntKind.i64.wrap (i + 1)) (joinF plusR f (oneF (ofR d) false) m) (upd (upd f m 0) m 7)) :=
  have h7 : i < (rd.length : Int) := of_decide_eq_true h1
  runP hmix [.reg 6 [(3, [], some true)], .reg 8 [(4, [.row [I d]], none), (8, [.row [Bo false]], none)], .fork 57 [] [], .reg 11 [(3, [.row [Bo false]], none)], .reg 13 [(3, [.row [I d]], none)], .reg 14 [(2, [.idx 5], none)], .fork 86 [.reg 15 [(2, [.idx 5], none), (6, [.idx 5], none)]] [], .tab [(8, F8), (9, F8), (10, F10)]] nm
    [decide (i < (rd.length : Int)) = true, 0 ≤ i, i < (rd.length : Int), rd[i.toNat]? = some [I d], 0 ≤ i, i < (re.length : Int), re[i.toNat]? = some [Bo false],
      Contract Try.prog 10 [ctr f, (spd d false).v, I m] [] (ctr (joinF plusR f (oneF (ofR d) false) m)) [], 0 ≤ i, i < (re.length : Int), re[i.toNat]? = some [Bo false], 0 ≤ i, i < (rd.length : Int), rd[i.toNat]? = some [I d],
      Contract Try.prog 9 [I d] [] (I (ofR d)) [], ofR d = 5, decide ((upd f m 0) 7 < m) = true → allP [ofR d = 5, ofR d = 5]] (by kernel_rfl)
    ⟨h1, h4, h7, h2, h4, h5, h3, c10 f (spd d false) m, h4, h5, h3, h4, h7, h2, c9 d, h6, fun _ => ⟨h6, h6⟩⟩

theorem r6f (rd re : List (List V)) (m i d : Int) (f : Nat → Int) (h1 : decide (i < (rd.length : Int)) = true) (h2 : rd[i.toNat]? = some [I d]) (h3 : re[i.toNat]? = some [Bo false]) (h4 : 0 ≤ i) (h5 : i < (re.length : Int)) (h6 : ofR d = 6) :
    CodeC Try.prog 0 97 body4 (sB rd re m i f f) .normal (sB rd re m (IntKind.i64.wrap (i + 1)) (joinF plusR f (oneF (ofR d) false) m) (upd (upd f m 0) m 8)) :=
  have h7 : i < (rd.length : Int) := of_decide_eq_true h1
  runP hmix [.reg 6 [(3, [], some true)], .reg 8 [(4, [.row [I d]], none), (8, [.row [Bo false]], none)], .fork 57 [] [], .reg 11 [(3, [.row [Bo false]], none)], .reg 13 [(3, [.row [I d]], none)], .reg 14 [(2, [.idx 6], none)], .fork 86 [.reg 15 [(2, [.idx 6], none), (6, [.idx 6], none)]] [], .tab [(8, F8), (9, F8), (10, F10)]] nm
    [decide (i < (rd.length : Int)) = true, 0 ≤ i, i < (rd.length : Int), rd[i.toNat]? = some [I d], 0 ≤ i, i < (re.length : Int), re[i.toNat]? = some [Bo false],
      Contract Try.prog 10 [ctr f, (spd d false).v, I m] [] (ctr (joinF plusR f (oneF (ofR d) false) m)) [], 0 ≤ i, i < (re.length : Int), re[i.toNat]? = some [Bo false], 0 ≤ i, i < (rd.length : Int), rd[i.toNat]? = some [I d],
      Contract Try.prog 9 [I d] [] (I (ofR d)) [], ofR d = 6, decide ((upd f m 0) 8 < m) = true → allP [ofR d = 6, ofR d = 6]] (by kernel_rfl)
    ⟨h1, h4, h7, h2, h4, h5, h3, c10 f (spd d false) m, h4, h5, h3, h4, h7, h2, c9 d, h6, fun _ => ⟨h6, h6⟩⟩

theorem r7f (rd re : List (List V)) (m i d : Int) (f : Nat → Int) (h1 : decide (i < (rd.length : Int)) = true) (h2 : rd[i.toNat]? = some [I d]) (h3 : re[i.toNat]? = some [Bo false]) (h4 : 0 ≤ i) (h5 : i < (re.length : Int)) (h6 : ofR d = 7) :
    CodeC Try.prog 0 97 body4 (sB rd re m i f f) .normal (sB rd re m (IntKind.i64.wrap (i + 1)) (joinF plusR f (oneF (ofR d) false) m) (upd (upd f m 0) m 9)) :=
  have h7 : i < (rd.length : Int) := of_decide_eq_true h1
  runP hmix [.reg 6 [(3, [], some true)], .reg 8 [(4, [.row [I d]], none), (8, [.row [Bo false]], none)], .fork 57 [] [], .reg 11 [(3, [.row [Bo false]], none)], .reg 13 [(3, [.row [I d]], none)], .reg 14 [(2, [.idx 7], none)], .fork 86 [.reg 15 [(2, [.idx 7], none), (6, [.idx 7], none)]] [], .tab [(8, F8), (9, F8), (10, F10)]] nm
    [decide (i < (rd.length : Int)) = true, 0 ≤ i, i < (rd.length : Int), rd[i.toNat]? = some [I d], 0 ≤ i, i < (re.length : Int), re[i.toNat]? = some [Bo false],
      Contract Try.prog 10 [ctr f, (spd d false).v, I m] [] (ctr (joinF plusR f (oneF (ofR d) false) m)) [], 0 ≤ i, i < (re.length : Int), re[i.toNat]? = some [Bo false], 0 ≤ i, i < (rd.length : Int), rd[i.toNat]? = some [I d],
      Contract Try.prog 9 [I d] [] (I (ofR d)) [], ofR d = 7, decide ((upd f m 0) 9 < m) = true → allP [ofR d = 7, ofR d = 7]] (by kernel_rfl)
    ⟨h1, h4, h7, h2, h4, h5, h3, c10 f (spd d false) m, h4, h5, h3, h4, h7, h2, c9 d, h6, fun _ => ⟨h6, h6⟩⟩

theorem r0t (rd re : List (List V)) (m i d : Int) (f : Nat → Int) (h1 : decide (i < (rd.length : Int)) = true) (h2 : rd[i.toNat]? = some [I d]) (h3 : re[i.toNat]? = some [Bo true]) (h4 : 0 ≤ i) (h5 : i < (re.length : Int)) (h6 : ofR d = 0) :
    CodeC Try.prog 0 97 body4 (sB rd re m i f f) .normal (sB rd re m (IntKind.i64.wrap (i + 1)) (joinF plusR f (oneF (ofR d) true) m) (upd (upd (upd f m 0) m 1) m 2)) :=
  have h7 : i < (rd.length : Int) := of_decide_eq_true h1
  runP hmix [.reg 6 [(3, [], some true)], .reg 8 [(4, [.row [I d]], none), (8, [.row [Bo true]], none)], .fork 57 [] [], .reg 11 [(3, [.row [Bo true]], none)], .fork 71 [] [], .reg 13 [(3, [.row [I d]], none)], .reg 14 [(2, [.idx 0], none)], .fork 86 [.reg 15 [(2, [.idx 0], none), (6, [.idx 0], none)]] [], .tab [(8, F8), (9, F8), (10, F10)]] nm
    [decide (i < (rd.length : Int)) = true, 0 ≤ i, i < (rd.length : Int), rd[i.toNat]? = some [I d], 0 ≤ i, i < (re.length : Int), re[i.toNat]? = some [Bo true],
      Contract Try.prog 10 [ctr f, (spd d true).v, I m] [] (ctr (joinF plusR f (oneF (ofR d) true) m)) [], 0 ≤ i, i < (re.length : Int), re[i.toNat]? = some [Bo true], 0 ≤ i, i < (rd.length : Int), rd[i.toNat]? = some [I d],
      Contract Try.prog 9 [I d] [] (I (ofR d)) [], ofR d = 0, decide ((upd (upd f m 0) m 1) 2 < m) = true → allP [ofR d = 0, ofR d = 0]] (by kernel_rfl)
    ⟨h1, h4, h7, h2, h4, h5, h3, c10 f (spd d true) m, h4, h5, h3, h4, h7, h2, c9 d, h6, fun _ => ⟨h6, h6⟩⟩

theorem r1t (rd re : List (List V)) (m i d : Int) (f : Nat → Int) (h1 : decide (i < (rd.length : Int)) = true) (h2 : rd[i.toNat]? = some [I d]) (h3 : re[i.toNat]? = some [Bo true]) (h4 : 0 ≤ i) (h5 : i < (re.length : Int)) (h6 : ofR d = 1) :
    CodeC Try.prog 0 97 body4 (sB rd re m i f f) .normal (sB rd re m (IntKind.i64.wrap (i + 1)) (joinF plusR f (oneF (ofR d) true) m) (upd (upd (upd f m 0) m 1) m 3)) :=
  have h7 : i < (rd.length : Int) := of_decide_eq_true h1
  runP hmix [.reg 6 [(3, [], some true)], .reg 8 [(4, [.row [I d]], none), (8, [.row [Bo true]], none)], .fork 57 [] [], .reg 11 [(3, [.row [Bo true]], none)], .fork 71 [] [], .reg 13 [(3, [.row [I d]], none)], .reg 14 [(2, [.idx 1], none)], .fork 86 [.reg 15 [(2, [.idx 1], none), (6, [.idx 1], none)]] [], .tab [(8, F8), (9, F8), (10, F10)]] nm
    [decide (i < (rd.length : Int)) = true, 0 ≤ i, i < (rd.length : Int), rd[i.toNat]? = some [I d], 0 ≤ i, i < (re.length : Int), re[i.toNat]? = some [Bo true],
      Contract Try.prog 10 [ctr f, (spd d true).v, I m] [] (ctr (joinF plusR f (oneF (ofR d) true) m)) [], 0 ≤ i, i < (re.length : Int), re[i.toNat]? = some [Bo true], 0 ≤ i, i < (rd.length : Int), rd[i.toNat]? = some [I d],
      Contract Try.prog 9 [I d] [] (I (ofR d)) [], ofR d = 1, decide ((upd (upd f m 0) m 1) 3 < m) = true → allP [ofR d = 1, ofR d = 1]] (by kernel_rfl)
    ⟨h1, h4, h7, h2, h4, h5, h3, c10 f (spd d true) m, h4, h5, h3, h4, h7, h2, c9 d, h6, fun _ => ⟨h6, h6⟩⟩

theorem r2t (rd re : List (List V)) (m i d : Int) (f : Nat → Int) (h1 : decide (i < (rd.length : Int)) = true) (h2 : rd[i.toNat]? = some [I d]) (h3 : re[i.toNat]? = some [Bo true]) (h4 : 0 ≤ i) (h5 : i < (re.length : Int)) (h6 : ofR d = 2) :
    CodeC Try.prog 0 97 body4 (sB rd re m i f f) .normal (sB rd re m (IntKind.i64.wrap (i + 1)) (joinF plusR f (oneF (ofR d) true) m) (upd (upd (upd f m 0) m 1) m 4)) :=
  have h7 : i < (rd.length : Int) := of_decide_eq_true h1
  runP hmix [.reg 6 [(3, [], some true)], .reg 8 [(4, [.row [I d]], none), (8, [.row [Bo true]], none)], .fork 57 [] [], .reg 11 [(3, [.row [Bo true]], none)], .fork 71 [] [], .reg 13 [(3, [.row [I d]], none)], .reg 14 [(2, [.idx 2], none)], .fork 86 [.reg 15 [(2, [.idx 2], none), (6, [.idx 2], none)]] [], .tab [(8, F8), (9, F8), (10, F10)]] nm
    [decide (i < (rd.length : Int)) = true, 0 ≤ i, i < (rd.length : Int), rd[i.toNat]? = some [I d], 0 ≤ i, i < (re.length : Int), re[i.toNat]? = some [Bo true],
      Contract Try.prog 10 [ctr f, (spd d true).v, I m] [] (ctr (joinF plusR f (oneF (ofR d) true) m)) [], 0 ≤ i, i < (re.length : Int), re[i.toNat]? = some [Bo true], 0 ≤ i, i < (rd.length : Int), rd[i.toNat]? = some [I d],
      Contract Try.prog 9 [I d] [] (I (ofR d)) [], ofR d = 2, decide ((upd (upd f m 0) m 1) 4 < m) = true → allP [ofR d = 2, ofR d = 2]] (by kernel_rfl)
    ⟨h1, h4, h7, h2, h4, h5, h3, c10 f (spd d true) m, h4, h5, h3, h4, h7, h2, c9 d, h6, fun _ => ⟨h6, h6⟩⟩

theorem r3t (rd re : List (List V)) (m i d : Int) (f : Nat → Int) (h1 : decide (i < (rd.length : Int)) = true) (h2 : rd[i.toNat]? = some [I d]) (h3 : re[i.toNat]? = some [Bo true]) (h4 : 0 ≤ i) (h5 : i < (re.length : Int)) (h6 : ofR d = 3) :
    CodeC Try.prog 0 97 body4 (sB rd re m i f f) .normal (sB rd re m (IntKind.i64.wrap (i + 1)) (joinF plusR f (oneF (ofR d) true) m) (upd (upd (upd f m 0) m 1) m 5)) :=
  have h7 : i < (rd.length : Int) := of_decide_eq_true h1
  runP hmix [.reg 6 [(3, [], some true)], .reg 8 [(4, [.row [I d]], none), (8, [.row [Bo true]], none)], .fork 57 [] [], .reg 11 [(3, [.row [Bo true]], none)], .fork 71 [] [], .reg 13 [(3, [.row [I d]], none)], .reg 14 [(2, [.idx 3], none)], .fork 86 [.reg 15 [(2, [.idx 3], none), (6, [.idx 3], none)]] [], .tab [(8, F8), (9, F8), (10, F10)]] nm
    [decide (i < (rd.length : Int)) = true, 0 ≤ i, i < (rd.length : Int), rd[i.toNat]? = some [I d], 0 ≤ i, i < (re.length : Int), re[i.toNat]? = some [Bo true],
      Contract Try.prog 10 [ctr f, (spd d true).v, I m] [] (ctr (joinF plusR f (oneF (ofR d) true) m)) [], 0 ≤ i, i < (re.length : Int), re[i.toNat]? = some [Bo true], 0 ≤ i, i < (rd.length : Int), rd[i.toNat]? = some [I d],
      Contract Try.prog 9 [I d] [] (I (ofR d)) [], ofR d = 3, decide ((upd (upd f m 0) m 1) 5 < m) = true → allP [ofR d = 3, ofR d = 3]] (by kernel_rfl)
    ⟨h1, h4, h7, h2, h4, h5, h3, c10 f (spd d true) m, h4, h5, h3, h4, h7, h2, c9 d, h6, fun _ => ⟨h6, h6⟩⟩

theorem r4t (rd re : List (List V)) (m i d : Int) (f : Nat → Int) (h1 : decide (i < (rd.length : Int)) = true) (h2 : rd[i.toNat]? = some [I d]) (h3 : re[i.toNat]? = some [Bo true]) (h4 : 0 ≤ i) (h5 : i < (re.length : Int)) (h6 : ofR d = 4) :
    CodeC Try.prog 0 97 body4 (sB rd re m i f f) .normal (sB rd re m (IntKind.i64.wrap (i + 1)) (joinF plusR f (oneF (ofR d) true) m) (upd (upd (upd f m 0) m 1) m 6)) :=
  have h7 : i < (rd.length : Int) := of_decide_eq_true h1
  runP hmix [.reg 6 [(3, [], some true)], .reg 8 [(4, [.row [I d]], none), (8, [.row [Bo true]], none)], .fork 57 [] [], .reg 11 [(3, [.row [Bo true]], none)], .fork 71 [] [], .reg 13 [(3, [.row [I d]], none)], .reg 14 [(2, [.idx 4], none)], .fork 86 [.reg 15 [(2, [.idx 4], none), (6, [.idx 4], none)]] [], .tab [(8, F8), (9, F8), (10, F10)]] nm
    [decide (i < (rd.length : Int)) = true, 0 ≤ i, i < (rd.length : Int), rd[i.toNat]? = some [I d], 0 ≤ i, i < (re.length : Int), re[i.toNat]? = some [Bo true],
      Contract Try.prog 10 [ctr f, (spd d true).v, I m] [] (ctr (joinF plusR f (oneF (ofR d) true) m)) [], 0 ≤ i, i < (re.length : Int), re[i.toNat]? = some [Bo true], 0 ≤ i, i < (rd.length : Int), rd[i.toNat]? = some [I d],
      Contract Try.prog 9 [I d] [] (I (ofR d)) [], ofR d = 4, decide ((upd (upd f m 0) m 1) 6 < m) = true → allP [ofR d = 4, ofR d = 4]] (by kernel_rfl)
    ⟨h1, h4, h7, h2, h4, h5, h3, c10 f (spd d true) m, h4, h5, h3, h4, h7, h2, c9 d, h6, fun _ => ⟨h6, h6⟩⟩

theorem r5t (rd re : List (List V)) (m i d : Int) (f : Nat → Int) (h1 : decide (i < (rd.length : Int)) = true) (h2 : rd[i.toNat]? = some [I d]) (h3 : re[i.toNat]? = some [Bo true]) (h4 : 0 ≤ i) (h5 : i < (re.length : Int)) (h6 : ofR d = 5) :
    CodeC Try.prog 0 97 body4 (sB rd re m i f f) .normal (sB rd re m (IntKind.i64.wrap (i + 1)) (joinF plusR f (oneF (ofR d) true) m) (upd (upd (upd f m 0) m 1) m 7)) :=
  have h7 : i < (rd.length : Int) := of_decide_eq_true h1
  runP hmix [.reg 6 [(3, [], some true)], .reg 8 [(4, [.row [I d]], none), (8, [.row [Bo true]], none)], .fork 57 [] [], .reg 11 [(3, [.row [Bo true]], none)], .fork 71 [] [], .reg 13 [(3, [.row [I d]], none)], .reg 14 [(2, [.idx 5], none)], .fork 86 [.reg 15 [(2, [.idx 5], none), (6, [.idx 5], none)]] [], .tab [(8, F8), (9, F8), (10, F10)]] nm
    [decide (i < (rd.length : Int)) = true, 0 ≤ i, i < (rd.length : Int), rd[i.toNat]? = some [I d], 0 ≤ i, i < (re.length : Int), re[i.toNat]? = some [Bo true],
      Contract Try.prog 10 [ctr f, (spd d true).v, I m] [] (ctr (joinF plusR f (oneF (ofR d) true) m)) [], 0 ≤ i, i < (re.length : Int), re[i.toNat]? = some [Bo true], 0 ≤ i, i < (rd.length : Int), rd[i.toNat]? = some [I d],
      Contract Try.prog 9 [I d] [] (I (ofR d)) [], ofR d = 5, decide ((upd (upd f m 0) m 1) 7 < m) = true → allP [ofR d = 5, ofR d = 5]] (by kernel_rfl)
    ⟨h1, h4, h7, h2, h4, h5, h3, c10 f (spd d true) m, h4, h5, h3, h4, h7, h2, c9 d, h6, fun _ => ⟨h6, h6⟩⟩

theorem r6t (rd re : List (List V)) (m i d : Int) (f : Nat → Int) (h1 : decide (i < (rd.length : Int)) = true) (h2 : rd[i.toNat]? = some [I d]) (h3 : re[i.toNat]? = some [Bo true]) (h4 : 0 ≤ i) (h5 : i < (re.length : Int)) (h6 : ofR d = 6) :
    CodeC Try.prog 0 97 body4 (sB rd re m i f f) .normal (sB rd re m (IntKind.i64.wrap (i + 1)) (joinF plusR f (oneF (ofR d) true) m) (upd (upd (upd f m 0) m 1) m 8)) :=
  have h7 : i < (rd.length : Int) := of_decide_eq_true h1
  runP hmix [.reg 6 [(3, [], some true)], .reg 8 [(4, [.row [I d]], none), (8, [.row [Bo true]], none)], .fork 57 [] [], .reg 11 [(3, [.row [Bo true]], none)], .fork 71 [] [], .reg 13 [(3, [.row [I d]], none)], .reg 14 [(2, [.idx 6], none)], .fork 86 [.reg 15 [(2, [.idx 6], none), (6, [.idx 6], none)]] [], .tab [(8, F8), (9, F8), (10, F10)]] nm
    [decide (i < (rd.length : Int)) = true, 0 ≤ i, i < (rd.length : Int), rd[i.toNat]? = some [I d], 0 ≤ i, i < (re.length : Int), re[i.toNat]? = some [Bo true],
      Contract Try.prog 10 [ctr f, (spd d true).v, I m] [] (ctr (joinF plusR f (oneF (ofR d) true) m)) [], 0 ≤ i, i < (re.length : Int), re[i.toNat]? = some [Bo true], 0 ≤ i, i < (rd.length : Int), rd[i.toNat]? = some [I d],
      Contract Try.prog 9 [I d] [] (I (ofR d)) [], ofR d = 6, decide ((upd (upd f m 0) m 1) 8 < m) = true → allP [ofR d = 6, ofR d = 6]] (by kernel_rfl)
    ⟨h1, h4, h7, h2, h4, h5, h3, c10 f (spd d true) m, h4, h5, h3, h4, h7, h2, c9 d, h6, fun _ => ⟨h6, h6⟩⟩

theorem r7t (rd re : List (List V)) (m i d : Int) (f : Nat → Int) (h1 : decide (i < (rd.length : Int)) = true) (h2 : rd[i.toNat]? = some [I d]) (h3 : re[i.toNat]? = some [Bo true]) (h4 : 0 ≤ i) (h5 : i < (re.length : Int)) (h6 : ofR d = 7) :
    CodeC Try.prog 0 97 body4 (sB rd re m i f f) .normal (sB rd re m (IntKind.i64.wrap (i + 1)) (joinF plusR f (oneF (ofR d) true) m) (upd (upd (upd f m 0) m 1) m 9)) :=
  have h7 : i < (rd.length : Int) := of_decide_eq_true h1
  runP hmix [.reg 6 [(3, [], some true)], .reg 8 [(4, [.row [I d]], none), (8, [.row [Bo true]], none)], .fork 57 [] [], .reg 11 [(3, [.row [Bo true]], none)], .fork 71 [] [], .reg 13 [(3, [.row [I d]], none)], .reg 14 [(2, [.idx 7], none)], .fork 86 [.reg 15 [(2, [.idx 7], none), (6, [.idx 7], none)]] [], .tab [(8, F8), (9, F8), (10, F10)]] nm
    [decide (i < (rd.length : Int)) = true, 0 ≤ i, i < (rd.length : Int), rd[i.toNat]? = some [I d], 0 ≤ i, i < (re.length : Int), re[i.toNat]? = some [Bo true],
      Contract Try.prog 10 [ctr f, (spd d true).v, I m] [] (ctr (joinF plusR f (oneF (ofR d) true) m)) [], 0 ≤ i, i < (re.length : Int), re[i.toNat]? = some [Bo true], 0 ≤ i, i < (rd.length : Int), rd[i.toNat]? = some [I d],
      Contract Try.prog 9 [I d] [] (I (ofR d)) [], ofR d = 7, decide ((upd (upd f m 0) m 1) 9 < m) = true → allP [ofR d = 7, ofR d = 7]] (by kernel_rfl)
    ⟨h1, h4, h7, h2, h4, h5, h3, c10 f (spd d true) m, h4, h5, h3, h4, h7, h2, c9 d, h6, fun _ => ⟨h6, h6⟩⟩


theorem last4 (rd re : List (List V)) (m i : Int) (f : Nat → Int) (h1 : decide (i < (rd.length : Int)) = false) : CodeC Try.prog 0 97 body4 (sB rd re m i f f) (.exit 0) (sB rd re m i f f) :=
  runP hmix [.reg 6 [(3, [], some false)]] nm [decide (i < (rd.length : Int)) = false] (by kernel_rfl) h1

def okF (m : Int) (f : Nat → Int) : Prop := ∀ j, 0 ≤ f j ∧ f j ≤ m

theorem plus_small {a b m : Int} (hm : 0 ≤ m ∧ m ≤ 1000) (ha : 0 ≤ a ∧ a ≤ m) (hb : 0 ≤ b ∧ b ≤ 1) : plusR a b m = (if a < m then a + b else a) := by
  have h0 : mx 0 m = m := by unfold mx; split <;> omega
  have h1 : mx 0 (mn a m) = a := by unfold mx mn; repeat' split
                                    all_goals omega
  have h2 : mx 0 (mn b m) = (if m < b then m else b) := by unfold mx mn; repeat' split
                                                           all_goals omega
  unfold plusR
  simp only [h0, h1, h2]
  rw [wrap64 (n := m - a) (by unfold inI; omega)]
  unfold mn
  rw [wrap64 (by unfold inI; repeat' split
                 all_goals omega)]
  repeat' split
  all_goals omega

theorem upd_val {f : Nat → Int} {m : Int} (hm : 0 ≤ m ∧ m ≤ 1000) (hf : okF m f) (k j : Nat) : upd f m k j = (if j = k then (if f k < m then f k + 1 else f k) else f j) := by
  have := hf k
  unfold upd
  rw [Bool.cond_decide]
  by_cases h : j = k
  · subst h
    simp only [BEq.rfl, cond_true]
    split
    · rw [wrap64 (by unfold inI; omega)]; simp
    · simp
  · have h' : (j == k) = false := by simp [h]
    rw [h']; simp [h]

theorem upd_ok {f : Nat → Int} {m : Int} (hm : 0 ≤ m ∧ m ≤ 1000) (hf : okF m f) (k : Nat) : okF m (upd f m k) := by
  intro j
  rw [upd_val hm hf]
  have := hf j
  have := hf k
  repeat' split
  all_goals omega

def want (f : Nat → Int) (m : Int) (k : Nat) (e : Bool) : Nat → Int := upd (bif e then upd (upd f m 0) m 1 else upd f m 0) m (k + 2)

theorem one_range (k : Int) (e : Bool) (j : Nat) : 0 ≤ oneF k e j ∧ oneF k e j ≤ 1 := by
  unfold oneF
  split
  · omega
  · cases e <;> simp
  · rw [Bool.cond_decide]; split <;> omega

theorem join_val {f : Nat → Int} {m : Int} (hm : 0 ≤ m ∧ m ≤ 1000) (hf : okF m f) (k : Int) (e : Bool) (j : Nat) : joinF plusR f (oneF k e) m j = (if f j < m then f j + oneF k e j else f j) :=
  plus_small hm (hf j) (one_range k e j)

theorem join_ok {f : Nat → Int} {m : Int} (hm : 0 ≤ m ∧ m ≤ 1000) (hf : okF m f) (k : Int) (e : Bool) : okF m (joinF plusR f (oneF k e) m) := by
  intro j
  rw [join_val hm hf]
  have := hf j
  have := one_range k e j
  split <;> omega

theorem want_join {f : Nat → Int} {m : Int} (hm : 0 ≤ m ∧ m ≤ 1000) (hf : okF m f) (k : Nat) (e : Bool) (j : Nat) : want f m k e j = joinF plusR f (oneF k e) m j := by
  rw [join_val hm hf]
  have o1 := upd_ok hm hf 0
  have o2 := upd_ok hm o1 1
  unfold want
  cases e with
  | true =>
    simp only [cond_true]
    rw [upd_val hm o2]
    simp only [upd_val hm o1, upd_val hm hf]
    match j with
    | 0 => simp [oneF]
    | 1 => simp [oneF]
    | j + 2 =>
      simp only [oneF, Bool.cond_decide]
      by_cases h : j = k
      · subst h; simp
      · have h2 : ¬ (k : Int) = ((j + 2 : Nat) : Int) - 2 := by omega
        simp [h]
        intro _
        rw [if_neg (by omega)]
        omega
  | false =>
    simp only [cond_false]
    rw [upd_val hm o1]
    simp only [upd_val hm hf]
    match j with
    | 0 => simp [oneF]
    | 1 => simp [oneF]
    | j + 2 =>
      simp only [oneF, Bool.cond_decide]
      by_cases h : j = k
      · subst h; simp
      · have h2 : ¬ (k : Int) = ((j + 2 : Nat) : Int) - 2 := by omega
        simp [h]
        intro _
        rw [if_neg (by omega)]
        omega

theorem cells_congr {f g : Nat → Int} (h : ∀ j, f j = g j) : cells f = cells g := by
  have : f = g := funext h
  rw [this]

theorem round4 (rd re : List (List V)) (m i d : Int) (e : Bool) (f : Nat → Int) (hm : 0 ≤ m ∧ m ≤ 1000) (hf : okF m f) (h1 : decide (i < (rd.length : Int)) = true) (h2 : rd[i.toNat]? = some [I d]) (h3 : re[i.toNat]? = some [Bo e]) (h4 : 0 ≤ i) (h5 : i < (re.length : Int)) :
    CodeC Try.prog 0 97 body4 (sB rd re m i f f) .normal (sB rd re m (IntKind.i64.wrap (i + 1)) (joinF plusR f (oneF (ofR d) e) m) (joinF plusR f (oneF (ofR d) e) m)) := by
  have key : ∀ k : Nat, ofR d = k → want f m k e = joinF plusR f (oneF (ofR d) e) m := by
    intro k hk
    rw [hk]
    exact funext fun j => want_join hm hf k e j
  rcases ofR_cases d with h | h | h | h | h | h | h | h <;> cases e

  · have t := r0f rd re m i d f h1 h2 h3 h4 h5 h
    have e1 : (want f m 0 false) = _ := key 0 h
    simp only [want, cond_false] at e1
    rw [e1] at t
    exact t
  · have t := r0t rd re m i d f h1 h2 h3 h4 h5 h
    have e1 : (want f m 0 true) = _ := key 0 h
    simp only [want, cond_true] at e1
    rw [e1] at t
    exact t
  · have t := r1f rd re m i d f h1 h2 h3 h4 h5 h
    have e1 : (want f m 1 false) = _ := key 1 h
    simp only [want, cond_false] at e1
    rw [e1] at t
    exact t
  · have t := r1t rd re m i d f h1 h2 h3 h4 h5 h
    have e1 : (want f m 1 true) = _ := key 1 h
    simp only [want, cond_true] at e1
    rw [e1] at t
    exact t
  · have t := r2f rd re m i d f h1 h2 h3 h4 h5 h
    have e1 : (want f m 2 false) = _ := key 2 h
    simp only [want, cond_false] at e1
    rw [e1] at t
    exact t
  · have t := r2t rd re m i d f h1 h2 h3 h4 h5 h
    have e1 : (want f m 2 true) = _ := key 2 h
    simp only [want, cond_true] at e1
    rw [e1] at t
    exact t
  · have t := r3f rd re m i d f h1 h2 h3 h4 h5 h
    have e1 : (want f m 3 false) = _ := key 3 h
    simp only [want, cond_false] at e1
    rw [e1] at t
    exact t
  · have t := r3t rd re m i d f h1 h2 h3 h4 h5 h
    have e1 : (want f m 3 true) = _ := key 3 h
    simp only [want, cond_true] at e1
    rw [e1] at t
    exact t
  · have t := r4f rd re m i d f h1 h2 h3 h4 h5 h
    have e1 : (want f m 4 false) = _ := key 4 h
    simp only [want, cond_false] at e1
    rw [e1] at t
    exact t
  · have t := r4t rd re m i d f h1 h2 h3 h4 h5 h
    have e1 : (want f m 4 true) = _ := key 4 h
    simp only [want, cond_true] at e1
    rw [e1] at t
    exact t
  · have t := r5f rd re m i d f h1 h2 h3 h4 h5 h
    have e1 : (want f m 5 false) = _ := key 5 h
    simp only [want, cond_false] at e1
    rw [e1] at t
    exact t
  · have t := r5t rd re m i d f h1 h2 h3 h4 h5 h
    have e1 : (want f m 5 true) = _ := key 5 h
    simp only [want, cond_true] at e1
    rw [e1] at t
    exact t
  · have t := r6f rd re m i d f h1 h2 h3 h4 h5 h
    have e1 : (want f m 6 false) = _ := key 6 h
    simp only [want, cond_false] at e1
    rw [e1] at t
    exact t
  · have t := r6t rd re m i d f h1 h2 h3 h4 h5 h
    have e1 : (want f m 6 true) = _ := key 6 h
    simp only [want, cond_true] at e1
    rw [e1] at t
    exact t
  · have t := r7f rd re m i d f h1 h2 h3 h4 h5 h
    have e1 : (want f m 7 false) = _ := key 7 h
    simp only [want, cond_false] at e1
    rw [e1] at t
    exact t
  · have t := r7t rd re m i d f h1 h2 h3 h4 h5 h
    have e1 : (want f m 7 true) = _ := key 7 h
    simp only [want, cond_true] at e1
    rw [e1] at t
    exact t

theorem loop4 (rd re : List (List V)) (m : Int) (hm : 0 ≤ m ∧ m ≤ 1000) (hl : rd.length ≤ 100) (hre : rd.length ≤ re.length) (hd : ∀ r ∈ rd, ∃ d, r = [I d]) (he : ∀ r ∈ re, ∃ e, r = [Bo e]) :
    ∀ (n i : Nat) (f : Nat → Int), i + n = rd.length → okF m f → ∃ g, LoopC Try.prog 0 97 body4 (sB rd re m i f f) (.exit 0) (sB rd re m (rd.length : Int) g g)
  | 0, i, f, hi, hf => by
    refine ⟨f, LoopC.last ?_ (by simp)⟩
    have : (i : Int) = (rd.length : Int) := by omega
    rw [this]
    exact last4 rd re m _ f (by simp)
  | n + 1, i, f, hi, hf => by
    obtain ⟨d, hd⟩ := hd rd[i] (List.getElem_mem (by omega))
    obtain ⟨e, he'⟩ := he re[i] (List.getElem_mem (by omega))
    have r := round4 rd re m (i : Int) d e f hm hf (decide_eq_true (by omega)) (by rw [← hd]; simp) (by rw [← he']; simp) (by omega) (by omega)
    rw [wrap64 (by unfold inI; omega)] at r
    obtain ⟨g, hg⟩ := loop4 rd re m hm hl hre ‹_› he n (i + 1) (joinF plusR f (oneF (ofR d) e) m) (by omega) (join_ok hm hf _ _)
    exact ⟨g, LoopC.next r hg⟩

def F7 : List V → Option V := fun _ => some (Bo true)
def eqC (f g : Nat → Int) : Bool := decide (f 0 = g 0) && (decide (f 1 = g 1) && ((decide (f 2 = g 2) && (decide (f 3 = g 3) && (decide (f 4 = g 4) && (decide (f 5 = g 5) && (decide (f 6 = g 6) && (decide (f 7 = g 7) && (decide (f 8 = g 8) && (decide (f 9 = g 9) && true)))))))) && true))
theorem eqC_of {f g : Nat → Int} (h : ∀ i, f i = g i) : eqC f g = true := by
  simp [eqC, h]

theorem c4 (rd re : List (List V)) (m : Int) (hd : ∀ r ∈ rd, ∃ d, r = [I d]) (he : ∀ r ∈ re, ∃ e, r = [Bo e]) : Contract Try.prog 4 [.sl 1 rd, .sl 1 re, I m] [] (Bo true) [] := by
  cases h1 : decide (100 < (rd.length : Int)) with
  | true => exact vcP hmix [.reg 2 [(5, [], some true)], .tab [(7, F7)]] [] [Contract Try.prog 7 [] [] (Bo true) [], decide (100 < (rd.length : Int)) = true] (by kernel_rfl) ⟨c7, h1⟩
  | false =>
  cases h2 : decide ((re.length : Int) < (rd.length : Int)) with
  | true => exact vcP hmix [.reg 2 [(5, [], some false), (12, [], some true)], .tab [(7, F7)]] [] [Contract Try.prog 7 [] [] (Bo true) [], decide (100 < (rd.length : Int)) = false, decide ((re.length : Int) < (rd.length : Int)) = true] (by kernel_rfl) ⟨c7, h1, h2⟩
  | false =>
  cases h3 : decide (m < 0) with
  | true => exact vcP hmix [.reg 2 [(5, [], some false), (12, [], some false), (16, [], some true)], .tab [(7, F7)]] [] [Contract Try.prog 7 [] [] (Bo true) [], decide (100 < (rd.length : Int)) = false, decide ((re.length : Int) < (rd.length : Int)) = false, decide (m < 0) = true] (by kernel_rfl) ⟨c7, h1, h2, h3⟩
  | false =>
  cases h4 : decide (1000 < m) with
  | true => exact vcP hmix [.reg 2 [(5, [], some false), (12, [], some false), (16, [], some false), (20, [], some true)], .tab [(7, F7)]] [] [Contract Try.prog 7 [] [] (Bo true) [], decide (100 < (rd.length : Int)) = false, decide ((re.length : Int) < (rd.length : Int)) = false, decide (m < 0) = false, decide (1000 < m) = true] (by kernel_rfl) ⟨c7, h1, h2, h3, h4⟩
  | false =>
  have g1 := of_decide_eq_false h1
  have g2 := of_decide_eq_false h2
  have g3 := of_decide_eq_false h3
  have g4 := of_decide_eq_false h4
  obtain ⟨g, hg⟩ := loop4 rd re m (by omega) (by omega) (by omega) hd he rd.length 0 (fun _ => 0) (by omega) (fun j => by constructor <;> simp <;> omega)
  exact vcP hmix [.reg 2 [(5, [], some false), (12, [], some false), (16, [], some false), (20, [], some false)], .cut nm (.exit 0) (sB rd re m (rd.length : Int) g g), .reg 16 [(2, [], some true)], .tab [(7, F7)]] []
    [Contract Try.prog 7 [] [] (Bo true) [], decide (100 < (rd.length : Int)) = false, decide ((re.length : Int) < (rd.length : Int)) = false, decide (m < 0) = false, decide (1000 < m) = false,
      LoopC Try.prog 0 97 body4 (sB rd re m 0 (fun _ => 0) (fun _ => 0)) (.exit 0) (sB rd re m (rd.length : Int) g g), eqC g g = true] (by kernel_rfl)
    ⟨c7, h1, h2, h3, h4, hg, eqC_of fun _ => rfl⟩

theorem own : ownKnob Try.prog.godebug = none := by kernel_rfl
theorem laidOut : laidOutB Try.prog = true := by kernel_rfl

theorem counts_lifted (os : Os) (started : os.Started) (H : Type) (enc : TypeId × Value → H) :
    ReturnsInHanded {} Try.checked os 4 .any (Rows.bucketCountsSpec.pre6 enc Try.prog Try.f4 Rows.bucketCountsRow.domain false) (Rows.bucketCountsSpec.post enc Try.prog Try.f4 false true false false) := by
  refine returnsInHanded_of_change (C := Try.checked) own started (by kernel_rfl) Try.func4
    (ChangeSpec.witness6 (enc := enc) (C := Try.checked) false ⟨#[], #[.slice none 0 0, .slice none 0 0, .int .i64 0], []⟩ 8 (by kernel_rfl) (by kernel_rfl) (by kernel_rfl) (by kernel_rfl)) ?_
  intro W base args ds gs before hval hW _ _
  refine row_of (P := Try.prog) (tb := 4) laidOut rfl (by kernel_rfl) (by kernel_rfl) (by kernel_rfl) Try.underlying4 (fun ds h => ?_) (fun us h => ?_) W base args ds gs before hval hW
  · match ds, h with
    | [_, _, _], _ => rfl
  · obtain ⟨u0, _, rfl, h0, u1, _, rfl, h1, u2, _, rfl, h2, rfl⟩ := h
    obtain ⟨rd, rfl, _, hd⟩ := arg_slice Try.underlying36 h0
    obtain ⟨re, rfl, _, he⟩ := arg_slice Try.underlying37 h1
    obtain ⟨m, rfl, hm⟩ := arg_int Try.underlying3 h2
    exact c4 rd re m (fun r hr => by obtain ⟨n, h, _⟩ := typed_int Try.underlying3 (hd r hr); exact ⟨n, h⟩) (fun r hr => by obtain ⟨n, h⟩ := typed_bool Try.underlying4 (he r hr); exact ⟨n, h⟩)

theorem BucketCounts_proved : Rows.BucketCountsSaid :=
  OpenClaim.holds_of_wide 4 Try.f4 rfl rfl rfl rfl rfl rfl rfl ⟨rfl, rfl, rfl, rfl, rfl⟩ rfl rfl rfl rfl rfl (by kernel_rfl) Try.func4 (by kernel_rfl)
    (of_decide_eq_true (by kernel_rfl)) (by unfold Func.isWrapper; first | (rw [if_pos (by decide +kernel)]; kernel_rfl) | (rw [if_neg (by decide +kernel)]; exact ⟨rfl, rfl⟩))
    (fun os started H enc _ => counts_lifted os started H enc)
#print axioms BucketCounts_proved
end Go.Proofs.Ytfaoiniaphmjnaa
