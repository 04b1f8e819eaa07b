/- the reference's device: Append. -/
import Derived.Test.YtinfjnnffmlpmaaGreatDoorShPlaysP4
namespace Go.Proofs.YtinfjnnffmlpmaaGreatDoor
open E
set_option maxRecDepth 100000
set_option linter.unusedVariables false
set_option linter.unusedSimpArgs false

def apS (r : Rv) (s : ByteArray) (b : List UInt8) (i : Nat) : SL := ⟨[(0, .ptr 0 0 0 0), (1, .val (.string s)), (2, .sl 1 (b.map bR)), (7, I i)], [(0, r.box 1), (1, r.arr)], [0, 1, 0, 1]⟩
def insF (F : Fs) (k : Nat) (p : ByteArray × Fi) : Fs := F.take k ++ [p] ++ F.drop k
noncomputable def apB : Code := codeAt Tryz.prog 9 [true, true, true, false, true, false, true, false, false, false]

theorem setFR {F : Fs} {i : Nat} {x : ByteArray × Fi} {s : ByteArray} {bs : List UInt8} {n : Int} (h : x.1 = s) : (F.map fR).set i [Sg x.1, .sl 1 (bs.map bR), I n] = (F.set i (s, ⟨bs, n⟩)).map fR := by
  subst h; rw [List.map_set]; rfl
theorem ins2 {F : Fs} {k : Nat} {s : ByteArray} : (F.take k).map fR ++ [[Sg s, V.sl 1 [], I 0]] = (F.take k ++ [(s, (⟨[], 0⟩ : Fi))]).map fR := by rw [List.map_append]; rfl
theorem ins3 {F : Fs} {k : Nat} {p : ByteArray × Fi} : (F.take k ++ [p]).map fR ++ List.take ((F.map fR).length - k) (List.drop k (F.map fR)) = (insF F k p).map fR := by
  rw [List.take_of_length_le (l := List.drop k (F.map fR)) (by simp), ← List.map_drop, ← List.map_append]; rfl
theorem insL {F : Fs} {k : Nat} {p : ByteArray × Fi} (hk : k ≤ F.length) : Int.ofNat k < Int.ofNat ((insF F k p).map fR).length := by
  simp only [insF, List.length_map, List.length_append, List.length_take, List.length_singleton, List.length_drop, Int.ofNat_eq_natCast]; omega
theorem insAt {F : Fs} {k : Nat} {p : ByteArray × Fi} (hk : k ≤ F.length) : (insF F k p)[k]? = some p := by
  unfold insF
  rw [List.append_assoc, List.getElem?_append_right (by simp; omega)]
  simp [Nat.min_eq_left hk]
theorem insG {F : Fs} {k : Nat} {p : ByteArray × Fi} (hk : k ≤ F.length) : ((insF F k p).map fR)[k]? = some (fR p) := by
  rw [List.getElem?_map, insAt hk]; rfl
theorem insSet {F : Fs} {k : Nat} {p q : ByteArray × Fi} (hk : k ≤ F.length) : (insF F k p).set k q = insF F k q := by
  unfold insF
  rw [List.append_assoc, List.append_assoc, List.set_append_right _ _ (by simp; omega)]
  simp [Nat.min_eq_left hk]
theorem insSt {F : Fs} {k : Nat} {s : ByteArray} {f : Fi} {bs : List UInt8} {n : Int} (hk : k ≤ F.length) : ((insF F k (s, f)).map fR).set k [Sg s, V.sl 1 (bs.map bR), I n] = (insF F k (s, ⟨bs, n⟩)).map fR := by
  have h := congrArg (List.map fR) (insSet (F := F) (k := k) (p := (s, f)) (q := (s, ⟨bs, n⟩)) hk)
  rw [List.map_set] at h
  exact h
theorem apG_0 (r : Rv) (s : ByteArray) (b : List UInt8) (x : ByteArray × Fi) (i : Nat) (hx : r.F[i]? = some x) (hi : i < r.F.length) (hl : r.F.length ≤ 1000000000) (hb : ltS x.1 s = true) : CodeC Tryz.prog 2 95 apB (apS r s b i) (Ex.normal) ({ env := [((0 : Nat), V.ptr (0 : Nat) (0 : Nat) (0 : Nat) (0 : Nat)), ((1 : Nat), Sg s), ((2 : Nat), V.sl (1 : Nat) (List.map bR b)), ((7 : Nat), I (Int.ofNat (i + (1 : Nat))))], st := [((0 : Nat), Obj.box [I (Rv.room r), I (Rv.fuse r), V.own (1 : Nat)]), ((1 : Nat), Obj.arr (3 : Nat) (List.map fR (Rv.F r)))], ids := [(0 : Nat), (1 : Nat), (0 : Nat), (1 : Nat)] }) :=
  runP hmix [.reg 10 [(6, [], some true), (15, [.row (fR x)], none), (17, [], some true)], .reg 11 [(1, [.be (I ((i + 1 : Nat) : Int))], none)]] ⟨[0, 1, 2, 7], [(0, 0), (1, 1)], []⟩ [
      decide (Int.ofNat i < Int.ofNat (List.length (List.map fR (Rv.F r)))) = true,
      (0 : Int) ≤ Int.ofNat i,
      Int.ofNat i < Int.ofNat (List.length (List.map fR (Rv.F r))),
      (List.map fR (Rv.F r))[i]? = some (fR x),
      Op.bytesLess (ByteArray.toList (Prod.fst x)) (ByteArray.toList s) = true,
      IntKind.wrap IntKind.i64 (Int.ofNat (i + (1 : Nat))) = Int.ofNat (i + (1 : Nat))] (by kernel_rfl)
    (by
      simp only [allP]
      and_intros <;> first
        | exact hb
        | exact i64_small (by simp; omega)
        | (simp [hx]; done)
        | (simp; omega))

theorem apG (r : Rv) (s : ByteArray) (b : List UInt8) (x : ByteArray × Fi) (i : Nat) (hx : r.F[i]? = some x) (hi : i < r.F.length) (hl : r.F.length ≤ 1000000000) (hb : ltS x.1 s = true)  : CodeC Tryz.prog 2 95 apB (apS r s b i) .normal (apS r s b (i + 1)) := by
  exact CodeC.cast (by
    first
      | rfl) (apG_0 r s b x i hx hi hl hb )

theorem apP_0 (r : Rv) (s : ByteArray) (b : List UInt8) (x : ByteArray × Fi) (i : Nat) (hx : r.F[i]? = some x) (hi : i < r.F.length) (hl : r.F.length ≤ 1000000000) (hb : ltS x.1 s = false) : CodeC Tryz.prog 2 95 apB (apS r s b i) (Ex.exit (1 : Nat)) ({ env := [((0 : Nat), V.ptr (0 : Nat) (0 : Nat) (0 : Nat) (0 : Nat)), ((1 : Nat), Sg s), ((2 : Nat), V.sl (1 : Nat) (List.map bR b)), ((7 : Nat), I (Int.ofNat i))], st := [((0 : Nat), Obj.box [I (Rv.room r), I (Rv.fuse r), V.own (1 : Nat)]), ((1 : Nat), Obj.arr (3 : Nat) (List.map fR (Rv.F r)))], ids := [(0 : Nat), (1 : Nat), (0 : Nat), (1 : Nat)] }) :=
  runP hmix [.reg 10 [(6, [], some true), (15, [.row (fR x)], none), (17, [], some false)]] ⟨[0, 1, 2, 7], [(0, 0), (1, 1)], []⟩ [
      decide (Int.ofNat i < Int.ofNat (List.length (List.map fR (Rv.F r)))) = true,
      (0 : Int) ≤ Int.ofNat i,
      Int.ofNat i < Int.ofNat (List.length (List.map fR (Rv.F r))),
      (List.map fR (Rv.F r))[i]? = some (fR x),
      Op.bytesLess (ByteArray.toList (Prod.fst x)) (ByteArray.toList s) = false] (by kernel_rfl)
    (by
      simp only [allP]
      and_intros <;> first
        | exact hb
        | (simp [hx]; done)
        | (simp; omega))

theorem apP (r : Rv) (s : ByteArray) (b : List UInt8) (x : ByteArray × Fi) (i : Nat) (hx : r.F[i]? = some x) (hi : i < r.F.length) (hl : r.F.length ≤ 1000000000) (hb : ltS x.1 s = false)  : CodeC Tryz.prog 2 95 apB (apS r s b i) (.exit 1) (apS r s b i) := by
  exact CodeC.cast (by
    first
      | rfl) (apP_0 r s b x i hx hi hl hb )

theorem apE_0 (r : Rv) (s : ByteArray) (b : List UInt8) (i : Nat) (h : r.F.length ≤ i) : CodeC Tryz.prog 2 95 apB (apS r s b i) (Ex.exit (1 : Nat)) ({ env := [((0 : Nat), V.ptr (0 : Nat) (0 : Nat) (0 : Nat) (0 : Nat)), ((1 : Nat), Sg s), ((2 : Nat), V.sl (1 : Nat) (List.map bR b)), ((7 : Nat), I (Int.ofNat i))], st := [((0 : Nat), Obj.box [I (Rv.room r), I (Rv.fuse r), V.own (1 : Nat)]), ((1 : Nat), Obj.arr (3 : Nat) (List.map fR (Rv.F r)))], ids := [(0 : Nat), (1 : Nat), (0 : Nat), (1 : Nat)] }) :=
  runP hmix [.reg 10 [(6, [], some false)]] ⟨[0, 1, 2, 7], [(0, 0), (1, 1)], []⟩ [
      decide (Int.ofNat i < Int.ofNat (List.length (List.map fR (Rv.F r)))) = false] (by kernel_rfl)
    (by
      simp only [allP]
      and_intros <;> first
        | (simp; omega))

theorem apE (r : Rv) (s : ByteArray) (b : List UInt8) (i : Nat) (h : r.F.length ≤ i)  : CodeC Tryz.prog 2 95 apB (apS r s b i) (.exit 1) (apS r s b i) := by
  exact CodeC.cast (by
    first
      | rfl) (apE_0 r s b i h )

theorem cRApp5_0 (r : Rv) (s : ByteArray) (b : List UInt8) (hf : r.fuse = 0) : Contract Tryz.prog 9 [.ptr 0 0 0 0, .val (.string s), .sl 1 (b.map bR)] [r.box 1, r.arr] (I (5 : Int)) ([some (Obj.box [I (Rv.room r), I (Rv.fuse r), V.own (1 : Nat)]), some (Obj.arr (3 : Nat) (List.map fR (Rv.F r)))]) :=
  vcP hmix [.reg 1 [(4, [], some true)]] [] [
      (Rv.fuse r == (0 : Int)) = true] (by kernel_rfl)
    (by
      simp only [allP]
      and_intros <;> first
        | (simp [hf]; done))

theorem cRApp5 (r : Rv) (s : ByteArray) (b : List UInt8) (hf : r.fuse = 0) : Contract Tryz.prog 9 [.ptr 0 0 0 0, .val (.string s), .sl 1 (b.map bR)] [r.box 1, r.arr] (I 5) [some (r.box 1), some r.arr] := by
  exact Contract.cast (by
    first
      | rfl) (by
    first
      | rfl) (cRApp5_0 r s b hf )

theorem cRApp1_0 (r : Rv) (s : ByteArray) (b : List UInt8) (hf : r.fuse ≠ 0) (hs : (ByteArray.toList s == []) = true) : Contract Tryz.prog 9 [.ptr 0 0 0 0, .val (.string s), .sl 1 (b.map bR)] [r.box 1, r.arr] (I (1 : Int)) ([some (Obj.box [I (Rv.room r), I (Rv.fuse r), V.own (1 : Nat)]), some (Obj.arr (3 : Nat) (List.map fR (Rv.F r)))]) :=
  vcP hmix [.reg 1 [(4, [], some false)], .reg 3 [(1, [], some true)]] [] [
      (Rv.fuse r == (0 : Int)) = false,
      (ByteArray.toList s == []) = true] (by kernel_rfl)
    (by
      simp only [allP]
      and_intros <;> first
        | omega
        | (simp [hf]; done))

theorem cRApp1 (r : Rv) (s : ByteArray) (b : List UInt8) (hf : r.fuse ≠ 0) (hs : (ByteArray.toList s == []) = true) : Contract Tryz.prog 9 [.ptr 0 0 0 0, .val (.string s), .sl 1 (b.map bR)] [r.box 1, r.arr] (I 1) [some (r.box 1), some r.arr] := by
  exact Contract.cast (by
    first
      | rfl) (by
    first
      | rfl) (cRApp1_0 r s b hf hs )

theorem cRApp3_0 (r : Rv) (s : ByteArray) (b : List UInt8) (u : Int) (hf : r.fuse ≠ 0) (hs : (ByteArray.toList s == []) = false) (hU : Contract Tryz.prog 28 [.ptr 0 0 0 0] [r.box 1, r.arr] (I u) [some (r.box 1), some r.arr]) (hu : 0 ≤ u) (hu2 : u ≤ 1000000000) (hr : 0 ≤ r.room) (hr2 : r.room ≤ 9223372036854775807) (hb : r.room - u < (b.length : Int)) : Contract Tryz.prog 9 [.ptr 0 0 0 0, .val (.string s), .sl 1 (b.map bR)] [r.box 1, r.arr] (I (3 : Int)) ([some (Obj.box [I (Rv.room r), I (Rv.fuse r), V.own (1 : Nat)]), some (Obj.arr (3 : Nat) (List.map fR (Rv.F r)))]) :=
  vcP hmix [.reg 1 [(4, [], some false)], .reg 3 [(1, [], some false)], .reg 5 [(5, [.cst 0 0 (I r.room)], none), (7, [.call [0, 1] [] (I u) [some (r.box 1), some r.arr]], none), (8, [.be (I (r.room - u))], none), (9, [], some true)]] [] [
      (Rv.fuse r == (0 : Int)) = false,
      (ByteArray.toList s == []) = false,
      cellIs (some (Obj.box [I (Rv.room r), I (Rv.fuse r), V.own (1 : Nat)])) (0 : Nat) (I (Rv.room r)),
      Contract Tryz.prog (28 : Nat) [V.ptr (0 : Nat) (0 : Nat) (0 : Nat) (0 : Nat)] [Obj.box [I (Rv.room r), I (Rv.fuse r), V.own (1 : Nat)], Obj.arr (3 : Nat) (List.map fR (Rv.F r))] (I u) [some (Obj.box [I (Rv.room r), I (Rv.fuse r), V.own (1 : Nat)]), some (Obj.arr (3 : Nat) (List.map fR (Rv.F r)))],
      cellIs (some (Obj.box [I (Rv.room r), I (Rv.fuse r), V.own (1 : Nat)])) (0 : Nat) (I (Rv.room r)),
      IntKind.wrap IntKind.i64 (Rv.room r + -u) = Rv.room r + -u,
      decide (Int.ofNat (List.length (List.map bR b)) > Rv.room r + -u) = true] (by kernel_rfl)
    (by
      simp only [allP]
      and_intros <;> first
        | omega
        | (simp [hf]; done)
        | exact hU
        | exact i64_small (by omega)
        | (simp; omega)
        | rfl)

theorem cRApp3 (r : Rv) (s : ByteArray) (b : List UInt8) (u : Int) (hf : r.fuse ≠ 0) (hs : (ByteArray.toList s == []) = false) (hU : Contract Tryz.prog 28 [.ptr 0 0 0 0] [r.box 1, r.arr] (I u) [some (r.box 1), some r.arr]) (hu : 0 ≤ u) (hu2 : u ≤ 1000000000) (hr : 0 ≤ r.room) (hr2 : r.room ≤ 9223372036854775807) (hb : r.room - u < (b.length : Int)) : Contract Tryz.prog 9 [.ptr 0 0 0 0, .val (.string s), .sl 1 (b.map bR)] [r.box 1, r.arr] (I 3) [some (r.box 1), some r.arr] := by
  exact Contract.cast (by
    first
      | rfl) (by
    first
      | rfl) (cRApp3_0 r s b u hf hs hU hu hu2 hr hr2 hb )

theorem cRAppA_0 (r : Rv) (s : ByteArray) (b : List UInt8) (u : Int) (x : ByteArray × Fi) (i : Nat) (hf : r.fuse ≠ 0) (hs : (ByteArray.toList s == []) = false) (hU : Contract Tryz.prog 28 [.ptr 0 0 0 0] [r.box 1, r.arr] (I u) [some (r.box 1), some r.arr]) (hu : 0 ≤ u) (hu2 : u ≤ 1000000000) (hr : 0 ≤ r.room) (hr2 : r.room ≤ 9223372036854775807) (hb : (b.length : Int) ≤ r.room - u) (hfu : r.fuse ≤ 9223372036854775807) (hb2 : b.length ≤ 1000000000) (hF : Contract Tryz.prog 29 [.ptr 0 0 0 0, .val (.string s)] [r.box 1, r.arr] (I i) [some (r.box 1), some r.arr]) (hx : r.F[i]? = some x) (hi : i < r.F.length) (hsx : x.1 = s) (hlx : x.2.bs.length + b.length ≤ 1000000000) : Contract Tryz.prog 9 [.ptr 0 0 0 0, .val (.string s), .sl 1 (b.map bR)] [r.box 1, r.arr] (I (0 : Int)) ([some (Obj.box [I (Rv.room r), I (bif decide (Rv.fuse r > (0 : Int)) then Rv.fuse r + (-1 : Int) else Rv.fuse r), V.own (1 : Nat)]), some (Obj.arr (3 : Nat) (List.map fR (List.set (Rv.F r) i (s, { bs := Fi.bs (Prod.snd x) ++ b, sure := Fi.sure (Prod.snd x) }))))]) :=
  vcP hmix [.reg 1 [(4, [], some false)], .reg 3 [(1, [], some false)], .reg 5 [(5, [.cst 0 0 (I r.room)], none), (7, [.call [0, 1] [] (I u) [some (r.box 1), some r.arr]], none), (8, [.be (I (r.room - u))], none), (9, [], some false)], .reg 7 [(2, [.call [0, 1] [] (I i) [some (r.box 1), some r.arr]], none)], .reg 8 [(1, [], some false)], .reg 13 [(12, [.row (fR x)], none), (13, [.beO (x.2.bs.map bR)], none), (15, [.beO ((x.2.bs ++ b).map bR)], none), (18, [.row (fR x), .beO ((r.F.set i (s, ⟨x.2.bs ++ b, x.2.sure⟩)).map fR)], none)], .reg 14 [(1, [.call [0, 1] [] (.tup []) [some ((⟨r.room, r.fuse, r.F.set i (s, ⟨x.2.bs ++ b, x.2.sure⟩)⟩ : Rv).went.box 1), some (⟨r.room, r.fuse, r.F.set i (s, ⟨x.2.bs ++ b, x.2.sure⟩)⟩ : Rv).went.arr]], none)]] [] [
      (Rv.fuse r == (0 : Int)) = false,
      (ByteArray.toList s == []) = false,
      cellIs (some (Obj.box [I (Rv.room r), I (Rv.fuse r), V.own (1 : Nat)])) (0 : Nat) (I (Rv.room r)),
      Contract Tryz.prog (28 : Nat) [V.ptr (0 : Nat) (0 : Nat) (0 : Nat) (0 : Nat)] [Obj.box [I (Rv.room r), I (Rv.fuse r), V.own (1 : Nat)], Obj.arr (3 : Nat) (List.map fR (Rv.F r))] (I u) [some (Obj.box [I (Rv.room r), I (Rv.fuse r), V.own (1 : Nat)]), some (Obj.arr (3 : Nat) (List.map fR (Rv.F r)))],
      cellIs (some (Obj.box [I (Rv.room r), I (Rv.fuse r), V.own (1 : Nat)])) (0 : Nat) (I (Rv.room r)),
      IntKind.wrap IntKind.i64 (Rv.room r + -u) = Rv.room r + -u,
      decide (Int.ofNat (List.length (List.map bR b)) > Rv.room r + -u) = false,
      Contract Tryz.prog (29 : Nat) [V.ptr (0 : Nat) (0 : Nat) (0 : Nat) (0 : Nat), Sg s] [Obj.box [I (Rv.room r), I (Rv.fuse r), V.own (1 : Nat)], Obj.arr (3 : Nat) (List.map fR (Rv.F r))] (I (Int.ofNat i)) [some (Obj.box [I (Rv.room r), I (Rv.fuse r), V.own (1 : Nat)]), some (Obj.arr (3 : Nat) (List.map fR (Rv.F r)))],
      false = false,
      (0 : Int) ≤ Int.ofNat i,
      Int.ofNat i < Int.ofNat (List.length (List.map fR (Rv.F r))),
      (List.map fR (Rv.F r))[i]? = some (fR x),
      List.length (List.map bR (Fi.bs (Prod.snd x))) * (1 : Nat) ≤ (140737488355328 : Nat),
      List.map bR (Fi.bs (Prod.snd x)) = List.map bR (Fi.bs (Prod.snd x)),
      (List.length (List.map bR (Fi.bs (Prod.snd x))) + List.length (List.map bR b)) * (1 : Nat) ≤ (140737488355328 : Nat),
      List.map bR (Fi.bs (Prod.snd x)) ++ List.map bR b = List.map bR (Fi.bs (Prod.snd x) ++ b),
      (0 : Int) ≤ Int.ofNat i,
      Int.ofNat i < Int.ofNat (List.length (List.map fR (Rv.F r))),
      (List.map fR (Rv.F r))[i]? = some (fR x),
      List.set (List.map fR (Rv.F r)) i [Sg (Prod.fst x), V.sl (1 : Nat) (List.map bR (Fi.bs (Prod.snd x) ++ b)), I (Fi.sure (Prod.snd x))] = List.map fR (List.set (Rv.F r) i (s, { bs := Fi.bs (Prod.snd x) ++ b, sure := Fi.sure (Prod.snd x) })),
      Contract Tryz.prog (30 : Nat) [V.ptr (0 : Nat) (0 : Nat) (0 : Nat) (0 : Nat)] [Obj.box [I (Rv.room r), I (Rv.fuse r), V.own (1 : Nat)], Obj.arr (3 : Nat) (List.map fR (List.set (Rv.F r) i (s, { bs := Fi.bs (Prod.snd x) ++ b, sure := Fi.sure (Prod.snd x) })))] (V.tup []) [some (Obj.box [I (Rv.room r), I (bif decide (Rv.fuse r > (0 : Int)) then Rv.fuse r + (-1 : Int) else Rv.fuse r), V.own (1 : Nat)]), some (Obj.arr (3 : Nat) (List.map fR (List.set (Rv.F r) i (s, { bs := Fi.bs (Prod.snd x) ++ b, sure := Fi.sure (Prod.snd x) }))))]] (by kernel_rfl)
    (by
      simp only [allP]
      and_intros <;> first
        | omega
        | (simp [hf]; done)
        | exact cRWent (⟨r.room, r.fuse, r.F.set i (s, ⟨x.2.bs ++ b, x.2.sure⟩)⟩ : Rv) hfu
        | exact setFR hsx
        | (simp [hx]; done)
        | exact hU
        | exact hF
        | exact i64_small (by omega)
        | (simp; omega)
        | rfl)

theorem cRAppA (r : Rv) (s : ByteArray) (b : List UInt8) (u : Int) (x : ByteArray × Fi) (i : Nat) (hf : r.fuse ≠ 0) (hs : (ByteArray.toList s == []) = false) (hU : Contract Tryz.prog 28 [.ptr 0 0 0 0] [r.box 1, r.arr] (I u) [some (r.box 1), some r.arr]) (hu : 0 ≤ u) (hu2 : u ≤ 1000000000) (hr : 0 ≤ r.room) (hr2 : r.room ≤ 9223372036854775807) (hb : (b.length : Int) ≤ r.room - u) (hfu : r.fuse ≤ 9223372036854775807) (hb2 : b.length ≤ 1000000000) (hF : Contract Tryz.prog 29 [.ptr 0 0 0 0, .val (.string s)] [r.box 1, r.arr] (I i) [some (r.box 1), some r.arr]) (hx : r.F[i]? = some x) (hi : i < r.F.length) (hsx : x.1 = s) (hlx : x.2.bs.length + b.length ≤ 1000000000) : Contract Tryz.prog 9 [.ptr 0 0 0 0, .val (.string s), .sl 1 (b.map bR)] [r.box 1, r.arr] (I 0) [some ((⟨r.room, r.fuse, r.F.set i (s, ⟨x.2.bs ++ b, x.2.sure⟩)⟩ : Rv).went.box 1), some (⟨r.room, r.fuse, r.F.set i (s, ⟨x.2.bs ++ b, x.2.sure⟩)⟩ : Rv).went.arr] := by
  exact Contract.cast (by
    first
      | rfl) (by
    first
      | rfl) (cRAppA_0 r s b u x i hf hs hU hu hu2 hr hr2 hb hfu hb2 hF hx hi hsx hlx )

theorem cRAppB_0 (r : Rv) (s : ByteArray) (b : List UInt8) (u : Int) (k : Nat) (hf : r.fuse ≠ 0) (hs : (ByteArray.toList s == []) = false) (hU : Contract Tryz.prog 28 [.ptr 0 0 0 0] [r.box 1, r.arr] (I u) [some (r.box 1), some r.arr]) (hu : 0 ≤ u) (hu2 : u ≤ 1000000000) (hr : 0 ≤ r.room) (hr2 : r.room ≤ 9223372036854775807) (hb : (b.length : Int) ≤ r.room - u) (hfu : r.fuse ≤ 9223372036854775807) (hb2 : b.length ≤ 1000000000) (hF : Contract Tryz.prog 29 [.ptr 0 0 0 0, .val (.string s)] [r.box 1, r.arr] (I (-1)) [some (r.box 1), some r.arr]) (hL : LoopC Tryz.prog 2 95 apB (apS r s b 0) (.exit 1) (apS r s b k)) (hk : k ≤ r.F.length) (hl : r.F.length ≤ 1000000) : Contract Tryz.prog 9 [.ptr 0 0 0 0, .val (.string s), .sl 1 (b.map bR)] [r.box 1, r.arr] (I (0 : Int)) ([some (Obj.box [I (Rv.room r), I (bif decide (Rv.fuse r > (0 : Int)) then Rv.fuse r + (-1 : Int) else Rv.fuse r), V.own (2 : Nat)]), some (Obj.arr (3 : Nat) (List.map fR (Rv.F r))), some (Obj.arr (3 : Nat) (List.map fR (insF (Rv.F r) k (s, { bs := b, sure := (0 : Int) }))))]) :=
  vcP hmix [.reg 1 [(4, [], some false)], .reg 3 [(1, [], some false)], .reg 5 [(5, [.cst 0 0 (I r.room)], none), (7, [.call [0, 1] [] (I u) [some (r.box 1), some r.arr]], none), (8, [.be (I (r.room - u))], none), (9, [], some false)], .reg 7 [(2, [.call [0, 1] [] (I (-1)) [some (r.box 1), some r.arr]], none)], .reg 8 [(1, [], some true)], .cut ⟨[0, 1, 2, 7], [(0, 0), (1, 1)], []⟩ (.exit 1) (apS r s b k), .reg 12 [(6, [.idx 0], none), (7, [.beO ((r.F.take k).map fR)], none), (11, [.beO ((r.F.take k ++ [(s, (⟨[], 0⟩ : Fi))]).map fR)], none), (17, [.idx 0], none), (18, [.beO ((insF r.F k (s, (⟨[], 0⟩ : Fi))).map fR)], none)], .reg 13 [(12, [.row (fR (s, (⟨[], 0⟩ : Fi)))], none), (18, [.row (fR (s, (⟨[], 0⟩ : Fi))), .beO ((insF r.F k (s, (⟨b, 0⟩ : Fi))).map fR)], none)], .reg 14 [(1, [.call [0, 2419000] [] (.tup []) [some ((⟨r.room, r.fuse, insF r.F k (s, (⟨b, 0⟩ : Fi))⟩ : Rv).went.box 1), some (⟨r.room, r.fuse, insF r.F k (s, (⟨b, 0⟩ : Fi))⟩ : Rv).went.arr]], none)]] [2419000] [
      (Rv.fuse r == (0 : Int)) = false,
      (ByteArray.toList s == []) = false,
      cellIs (some (Obj.box [I (Rv.room r), I (Rv.fuse r), V.own (1 : Nat)])) (0 : Nat) (I (Rv.room r)),
      Contract Tryz.prog (28 : Nat) [V.ptr (0 : Nat) (0 : Nat) (0 : Nat) (0 : Nat)] [Obj.box [I (Rv.room r), I (Rv.fuse r), V.own (1 : Nat)], Obj.arr (3 : Nat) (List.map fR (Rv.F r))] (I u) [some (Obj.box [I (Rv.room r), I (Rv.fuse r), V.own (1 : Nat)]), some (Obj.arr (3 : Nat) (List.map fR (Rv.F r)))],
      cellIs (some (Obj.box [I (Rv.room r), I (Rv.fuse r), V.own (1 : Nat)])) (0 : Nat) (I (Rv.room r)),
      IntKind.wrap IntKind.i64 (Rv.room r + -u) = Rv.room r + -u,
      decide (Int.ofNat (List.length (List.map bR b)) > Rv.room r + -u) = false,
      Contract Tryz.prog (29 : Nat) [V.ptr (0 : Nat) (0 : Nat) (0 : Nat) (0 : Nat), Sg s] [Obj.box [I (Rv.room r), I (Rv.fuse r), V.own (1 : Nat)], Obj.arr (3 : Nat) (List.map fR (Rv.F r))] (I (-1 : Int)) [some (Obj.box [I (Rv.room r), I (Rv.fuse r), V.own (1 : Nat)]), some (Obj.arr (3 : Nat) (List.map fR (Rv.F r)))],
      true = true,
      LoopC Tryz.prog (2 : Nat) (95 : Nat) apB { env := [((0 : Nat), V.ptr (0 : Nat) (0 : Nat) (0 : Nat) (0 : Nat)), ((1 : Nat), Sg s), ((2 : Nat), V.sl (1 : Nat) (List.map bR b)), ((7 : Nat), I (0 : Int))], st := [((0 : Nat), Obj.box [I (Rv.room r), I (Rv.fuse r), V.own (1 : Nat)]), ((1 : Nat), Obj.arr (3 : Nat) (List.map fR (Rv.F r)))], ids := [(0 : Nat), (1 : Nat), (0 : Nat), (1 : Nat)] } (Ex.exit (1 : Nat)) { env := [((0 : Nat), V.ptr (0 : Nat) (0 : Nat) (0 : Nat) (0 : Nat)), ((1 : Nat), Sg s), ((2 : Nat), V.sl (1 : Nat) (List.map bR b)), ((7 : Nat), I (Int.ofNat k))], st := [((0 : Nat), Obj.box [I (Rv.room r), I (Rv.fuse r), V.own (1 : Nat)]), ((1 : Nat), Obj.arr (3 : Nat) (List.map fR (Rv.F r)))], ids := [(0 : Nat), (1 : Nat), (0 : Nat), (1 : Nat)] },
      (0 : Int) ≤ (0 : Int),
      (0 : Int) ≤ Int.ofNat k,
      k ≤ List.length (List.map fR (Rv.F r)),
      k ≤ List.length (List.map fR (Rv.F r)),
      List.length (List.take k (List.map fR (Rv.F r))) * (48 : Nat) ≤ (140737488355328 : Nat),
      List.take k (List.map fR (Rv.F r)) = List.map fR (List.take k (Rv.F r)),
      (List.length (List.map fR (List.take k (Rv.F r))) + (1 : Nat)) * (48 : Nat) ≤ (140737488355328 : Nat),
      List.map fR (List.take k (Rv.F r)) ++ [[Sg s, V.sl (1 : Nat) [], I (0 : Int)]] = List.map fR (List.take k (Rv.F r) ++ [(s, { bs := [], sure := (0 : Int) })]),
      (0 : Int) ≤ Int.ofNat k,
      Int.ofNat k ≤ Int.ofNat (List.length (List.map fR (Rv.F r))),
      List.length (List.map fR (Rv.F r)) ≤ List.length (List.map fR (Rv.F r)),
      List.length (List.map fR (Rv.F r)) ≤ List.length (List.map fR (Rv.F r)),
      (List.length (List.map fR (List.take k (Rv.F r) ++ [(s, { bs := [], sure := (0 : Int) })])) + List.length (List.take (List.length (List.map fR (Rv.F r)) - k) (List.drop k (List.map fR (Rv.F r))))) * (48 : Nat) ≤ (140737488355328 : Nat),
      List.map fR (List.take k (Rv.F r) ++ [(s, { bs := [], sure := (0 : Int) })]) ++ List.take (List.length (List.map fR (Rv.F r)) - k) (List.drop k (List.map fR (Rv.F r))) = List.map fR (insF (Rv.F r) k (s, { bs := [], sure := (0 : Int) })),
      (0 : Int) ≤ Int.ofNat k,
      Int.ofNat k < Int.ofNat (List.length (List.map fR (insF (Rv.F r) k (s, { bs := [], sure := (0 : Int) })))),
      (List.map fR (insF (Rv.F r) k (s, { bs := [], sure := (0 : Int) })))[k]? = some (fR (s, { bs := [], sure := (0 : Int) })),
      (0 : Nat) ≤ (140737488355328 : Nat),
      ((0 : Nat) + List.length (List.map bR b)) * (1 : Nat) ≤ (140737488355328 : Nat),
      (0 : Int) ≤ Int.ofNat k,
      Int.ofNat k < Int.ofNat (List.length (List.map fR (insF (Rv.F r) k (s, { bs := [], sure := (0 : Int) })))),
      (List.map fR (insF (Rv.F r) k (s, { bs := [], sure := (0 : Int) })))[k]? = some (fR (s, { bs := [], sure := (0 : Int) })),
      List.set (List.map fR (insF (Rv.F r) k (s, { bs := [], sure := (0 : Int) }))) k [Sg s, V.sl (1 : Nat) (List.map bR b), I (0 : Int)] = List.map fR (insF (Rv.F r) k (s, { bs := b, sure := (0 : Int) })),
      Contract Tryz.prog (30 : Nat) [V.ptr (0 : Nat) (0 : Nat) (0 : Nat) (0 : Nat)] [Obj.box [I (Rv.room r), I (Rv.fuse r), V.own (1 : Nat)], Obj.arr (3 : Nat) (List.map fR (insF (Rv.F r) k (s, { bs := b, sure := (0 : Int) })))] (V.tup []) [some (Obj.box [I (Rv.room r), I (bif decide (Rv.fuse r > (0 : Int)) then Rv.fuse r + (-1 : Int) else Rv.fuse r), V.own (1 : Nat)]), some (Obj.arr (3 : Nat) (List.map fR (insF (Rv.F r) k (s, { bs := b, sure := (0 : Int) }))))]] (by kernel_rfl)
    (by
      simp only [allP]
      and_intros <;> first
        | omega
        | (simp [hf]; done)
        | exact hL
        | exact cRWent (⟨r.room, r.fuse, insF r.F k (s, (⟨b, 0⟩ : Fi))⟩ : Rv) hfu
        | exact ins2
        | exact ins3
        | exact insG hk
        | exact insSt hk
        | exact insL hk
        | exact hU
        | exact hF
        | exact i64_small (by omega)
        | (simp; omega)
        | rfl)

theorem cRAppB (r : Rv) (s : ByteArray) (b : List UInt8) (u : Int) (k : Nat) (hf : r.fuse ≠ 0) (hs : (ByteArray.toList s == []) = false) (hU : Contract Tryz.prog 28 [.ptr 0 0 0 0] [r.box 1, r.arr] (I u) [some (r.box 1), some r.arr]) (hu : 0 ≤ u) (hu2 : u ≤ 1000000000) (hr : 0 ≤ r.room) (hr2 : r.room ≤ 9223372036854775807) (hb : (b.length : Int) ≤ r.room - u) (hfu : r.fuse ≤ 9223372036854775807) (hb2 : b.length ≤ 1000000000) (hF : Contract Tryz.prog 29 [.ptr 0 0 0 0, .val (.string s)] [r.box 1, r.arr] (I (-1)) [some (r.box 1), some r.arr]) (hL : LoopC Tryz.prog 2 95 apB (apS r s b 0) (.exit 1) (apS r s b k)) (hk : k ≤ r.F.length) (hl : r.F.length ≤ 1000000) : Contract Tryz.prog 9 [.ptr 0 0 0 0, .val (.string s), .sl 1 (b.map bR)] [r.box 1, r.arr] (I 0) [some ((⟨r.room, r.fuse, insF r.F k (s, (⟨b, 0⟩ : Fi))⟩ : Rv).went.box 2), some r.arr, some (⟨r.room, r.fuse, insF r.F k (s, (⟨b, 0⟩ : Fi))⟩ : Rv).went.arr] := by
  exact Contract.cast (by
    first
      | rfl) (by
    first
      | rfl) (cRAppB_0 r s b u k hf hs hU hu hu2 hr hr2 hb hfu hb2 hF hL hk hl )

end Go.Proofs.YtinfjnnffmlpmaaGreatDoor

/- the reference's device: Sync, Delete, Read, Files, Fuse, New. -/
namespace Go.Proofs.YtinfjnnffmlpmaaGreatDoor
open E
set_option maxRecDepth 100000
set_option linter.unusedVariables false
set_option linter.unusedSimpArgs false

theorem setFR2 {F : Fs} {i : Nat} {x : ByteArray × Fi} {s : ByteArray} {bs : List UInt8} (h : x.1 = s) : (F.map fR).set i [Sg x.1, .sl 1 (bs.map bR), I (Int.ofNat (bs.map bR).length)] = (F.set i (s, ⟨bs, Int.ofNat bs.length⟩)).map fR := by
  rw [List.length_map]; exact setFR h
theorem cRSyncA_0 (r : Rv) (s : ByteArray) (x : ByteArray × Fi) (i : Nat) (hf : r.fuse ≠ 0) (hfu : r.fuse ≤ 9223372036854775807) (hF : Contract Tryz.prog 29 [.ptr 0 0 0 0, .val (.string s)] [r.box 1, r.arr] (I i) [some (r.box 1), some r.arr]) (hx : r.F[i]? = some x) (hi : i < r.F.length) (hsx : x.1 = s) : Contract Tryz.prog 36 [.ptr 0 0 0 0, .val (.string s)] [r.box 1, r.arr] (I (0 : Int)) ([some (Obj.box [I (Rv.room r), I (bif decide (Rv.fuse r > (0 : Int)) then Rv.fuse r + (-1 : Int) else Rv.fuse r), V.own (1 : Nat)]), some (Obj.arr (3 : Nat) (List.map fR (List.set (Rv.F r) i (s, { bs := Fi.bs (Prod.snd x), sure := Int.ofNat (List.length (Fi.bs (Prod.snd x))) }))))]) :=
  vcP hmix [.reg 1 [(4, [], some false)], .reg 3 [(2, [.call [0, 1] [] (I i) [some (r.box 1), some r.arr]], none)], .reg 4 [(1, [], some false)], .reg 6 [(12, [.row (fR x)], none), (16, [.row (fR x), .beO ((r.F.set i (s, ⟨x.2.bs, x.2.bs.length⟩)).map fR)], none)], .reg 7 [(1, [.call [0, 1] [] (.tup []) [some ((⟨r.room, r.fuse, r.F.set i (s, ⟨x.2.bs, x.2.bs.length⟩)⟩ : Rv).went.box 1), some (⟨r.room, r.fuse, r.F.set i (s, ⟨x.2.bs, x.2.bs.length⟩)⟩ : Rv).went.arr]], none)]] [] [
      (Rv.fuse r == (0 : Int)) = false,
      Contract Tryz.prog (29 : Nat) [V.ptr (0 : Nat) (0 : Nat) (0 : Nat) (0 : Nat), Sg s] [Obj.box [I (Rv.room r), I (Rv.fuse r), V.own (1 : Nat)], Obj.arr (3 : Nat) (List.map fR (Rv.F r))] (I (Int.ofNat i)) [some (Obj.box [I (Rv.room r), I (Rv.fuse r), V.own (1 : Nat)]), some (Obj.arr (3 : Nat) (List.map fR (Rv.F r)))],
      false = false,
      (0 : Int) ≤ Int.ofNat i,
      Int.ofNat i < Int.ofNat (List.length (List.map fR (Rv.F r))),
      (List.map fR (Rv.F r))[i]? = some (fR x),
      (0 : Int) ≤ Int.ofNat i,
      Int.ofNat i < Int.ofNat (List.length (List.map fR (Rv.F r))),
      (List.map fR (Rv.F r))[i]? = some (fR x),
      List.set (List.map fR (Rv.F r)) i [Sg (Prod.fst x), V.sl (1 : Nat) (List.map bR (Fi.bs (Prod.snd x))), I (Int.ofNat (List.length (List.map bR (Fi.bs (Prod.snd x)))))] = List.map fR (List.set (Rv.F r) i (s, { bs := Fi.bs (Prod.snd x), sure := Int.ofNat (List.length (Fi.bs (Prod.snd x))) })),
      Contract Tryz.prog (30 : Nat) [V.ptr (0 : Nat) (0 : Nat) (0 : Nat) (0 : Nat)] [Obj.box [I (Rv.room r), I (Rv.fuse r), V.own (1 : Nat)], Obj.arr (3 : Nat) (List.map fR (List.set (Rv.F r) i (s, { bs := Fi.bs (Prod.snd x), sure := Int.ofNat (List.length (Fi.bs (Prod.snd x))) })))] (V.tup []) [some (Obj.box [I (Rv.room r), I (bif decide (Rv.fuse r > (0 : Int)) then Rv.fuse r + (-1 : Int) else Rv.fuse r), V.own (1 : Nat)]), some (Obj.arr (3 : Nat) (List.map fR (List.set (Rv.F r) i (s, { bs := Fi.bs (Prod.snd x), sure := Int.ofNat (List.length (Fi.bs (Prod.snd x))) }))))]] (by kernel_rfl)
    (by
      simp only [allP]
      and_intros <;> first
        | exact cRWent (⟨r.room, r.fuse, r.F.set i (s, ⟨x.2.bs, x.2.bs.length⟩)⟩ : Rv) hfu
        | exact setFR2 hsx
        | exact hF
        | (simp [hf]; done)
        | (simp [hx]; done)
        | (simp; omega))

theorem cRSyncA (r : Rv) (s : ByteArray) (x : ByteArray × Fi) (i : Nat) (hf : r.fuse ≠ 0) (hfu : r.fuse ≤ 9223372036854775807) (hF : Contract Tryz.prog 29 [.ptr 0 0 0 0, .val (.string s)] [r.box 1, r.arr] (I i) [some (r.box 1), some r.arr]) (hx : r.F[i]? = some x) (hi : i < r.F.length) (hsx : x.1 = s) : Contract Tryz.prog 36 [.ptr 0 0 0 0, .val (.string s)] [r.box 1, r.arr] (I 0) [some ((⟨r.room, r.fuse, r.F.set i (s, ⟨x.2.bs, x.2.bs.length⟩)⟩ : Rv).went.box 1), some (⟨r.room, r.fuse, r.F.set i (s, ⟨x.2.bs, x.2.bs.length⟩)⟩ : Rv).went.arr] := by
  exact Contract.cast (by
    first
      | rfl) (by
    first
      | rfl) (cRSyncA_0 r s x i hf hfu hF hx hi hsx )

theorem cRSyncB_0 (r : Rv) (s : ByteArray) (hf : r.fuse ≠ 0) (hF : Contract Tryz.prog 29 [.ptr 0 0 0 0, .val (.string s)] [r.box 1, r.arr] (I (-1)) [some (r.box 1), some r.arr]) : Contract Tryz.prog 36 [.ptr 0 0 0 0, .val (.string s)] [r.box 1, r.arr] (I (4 : Int)) ([some (Obj.box [I (Rv.room r), I (Rv.fuse r), V.own (1 : Nat)]), some (Obj.arr (3 : Nat) (List.map fR (Rv.F r)))]) :=
  vcP hmix [.reg 1 [(4, [], some false)], .reg 3 [(2, [.call [0, 1] [] (I (-1)) [some (r.box 1), some r.arr]], none)], .reg 4 [(1, [], some true)]] [] [
      (Rv.fuse r == (0 : Int)) = false,
      Contract Tryz.prog (29 : Nat) [V.ptr (0 : Nat) (0 : Nat) (0 : Nat) (0 : Nat), Sg s] [Obj.box [I (Rv.room r), I (Rv.fuse r), V.own (1 : Nat)], Obj.arr (3 : Nat) (List.map fR (Rv.F r))] (I (-1 : Int)) [some (Obj.box [I (Rv.room r), I (Rv.fuse r), V.own (1 : Nat)]), some (Obj.arr (3 : Nat) (List.map fR (Rv.F r)))],
      true = true] (by kernel_rfl)
    (by
      simp only [allP]
      and_intros <;> first
        | exact hF
        | (simp [hf]; done))

theorem cRSyncB (r : Rv) (s : ByteArray) (hf : r.fuse ≠ 0) (hF : Contract Tryz.prog 29 [.ptr 0 0 0 0, .val (.string s)] [r.box 1, r.arr] (I (-1)) [some (r.box 1), some r.arr]) : Contract Tryz.prog 36 [.ptr 0 0 0 0, .val (.string s)] [r.box 1, r.arr] (I 4) [some (r.box 1), some r.arr] := by
  exact Contract.cast (by
    first
      | rfl) (by
    first
      | rfl) (cRSyncB_0 r s hf hF )

theorem cRSyncC_0 (r : Rv) (s : ByteArray) (hf : r.fuse = 0) : Contract Tryz.prog 36 [.ptr 0 0 0 0, .val (.string s)] [r.box 1, r.arr] (I (5 : Int)) ([some (Obj.box [I (Rv.room r), I (Rv.fuse r), V.own (1 : Nat)]), some (Obj.arr (3 : Nat) (List.map fR (Rv.F r)))]) :=
  vcP hmix [.reg 1 [(4, [], some true)]] [] [
      (Rv.fuse r == (0 : Int)) = true] (by kernel_rfl)
    (by
      simp only [allP]
      and_intros <;> first
        | (simp [hf]; done))

theorem cRSyncC (r : Rv) (s : ByteArray) (hf : r.fuse = 0) : Contract Tryz.prog 36 [.ptr 0 0 0 0, .val (.string s)] [r.box 1, r.arr] (I 5) [some (r.box 1), some r.arr] := by
  exact Contract.cast (by
    first
      | rfl) (by
    first
      | rfl) (cRSyncC_0 r s hf )

theorem tk3 {F : Fs} {i : Nat} : (F.take i).map fR ++ List.take ((F.map fR).length - (i + 1)) (List.drop (i + 1) (F.map fR)) = (F.take i ++ F.drop (i + 1)).map fR := by
  rw [List.take_of_length_le (l := List.drop (i + 1) (F.map fR)) (by simp), ← List.map_drop, ← List.map_append]
theorem cRDelA_0 (r : Rv) (s : ByteArray) (i : Nat) (hf : r.fuse ≠ 0) (hfu : r.fuse ≤ 9223372036854775807) (hF : Contract Tryz.prog 29 [.ptr 0 0 0 0, .val (.string s)] [r.box 1, r.arr] (I i) [some (r.box 1), some r.arr]) (hi : i < r.F.length) (hl : r.F.length ≤ 1000000) : Contract Tryz.prog 35 [.ptr 0 0 0 0, .val (.string s)] [r.box 1, r.arr] (I (0 : Int)) ([some (Obj.box [I (Rv.room r), I (bif decide (Rv.fuse r > (0 : Int)) then Rv.fuse r + (-1 : Int) else Rv.fuse r), V.own (2 : Nat)]), some (Obj.arr (3 : Nat) (List.map fR (Rv.F r))), some (Obj.arr (3 : Nat) (List.map fR (List.take i (Rv.F r) ++ List.drop (i + (1 : Nat)) (Rv.F r))))]) :=
  vcP hmix [.reg 1 [(4, [], some false)], .reg 3 [(2, [.call [0, 1] [] (I i) [some (r.box 1), some r.arr]], none)], .reg 4 [(1, [], some false)], .reg 6 [(6, [.idx 0], none), (7, [.beO ((r.F.take i).map fR)], none), (13, [.be (I ((i + 1 : Nat) : Int))], none), (14, [.idx 0], none), (15, [.beO ((r.F.take i ++ r.F.drop (i + 1)).map fR)], none)], .reg 7 [(1, [.call [0, 1216000] [] (.tup []) [some ((⟨r.room, r.fuse, r.F.take i ++ r.F.drop (i + 1)⟩ : Rv).went.box 1), some (⟨r.room, r.fuse, r.F.take i ++ r.F.drop (i + 1)⟩ : Rv).went.arr]], none)]] [1216000] [
      (Rv.fuse r == (0 : Int)) = false,
      Contract Tryz.prog (29 : Nat) [V.ptr (0 : Nat) (0 : Nat) (0 : Nat) (0 : Nat), Sg s] [Obj.box [I (Rv.room r), I (Rv.fuse r), V.own (1 : Nat)], Obj.arr (3 : Nat) (List.map fR (Rv.F r))] (I (Int.ofNat i)) [some (Obj.box [I (Rv.room r), I (Rv.fuse r), V.own (1 : Nat)]), some (Obj.arr (3 : Nat) (List.map fR (Rv.F r)))],
      false = false,
      (0 : Int) ≤ (0 : Int),
      (0 : Int) ≤ Int.ofNat i,
      i ≤ List.length (List.map fR (Rv.F r)),
      i ≤ List.length (List.map fR (Rv.F r)),
      List.length (List.take i (List.map fR (Rv.F r))) * (48 : Nat) ≤ (140737488355328 : Nat),
      List.take i (List.map fR (Rv.F r)) = List.map fR (List.take i (Rv.F r)),
      IntKind.wrap IntKind.i64 (Int.ofNat (i + (1 : Nat))) = Int.ofNat (i + (1 : Nat)),
      (0 : Int) ≤ Int.ofNat (i + (1 : Nat)),
      Int.ofNat (i + (1 : Nat)) ≤ Int.ofNat (List.length (List.map fR (Rv.F r))),
      List.length (List.map fR (Rv.F r)) ≤ List.length (List.map fR (Rv.F r)),
      List.length (List.map fR (Rv.F r)) ≤ List.length (List.map fR (Rv.F r)),
      (List.length (List.map fR (List.take i (Rv.F r))) + List.length (List.take (List.length (List.map fR (Rv.F r)) - Int.toNat (Int.ofNat (i + (1 : Nat)))) (List.drop (Int.toNat (Int.ofNat (i + (1 : Nat)))) (List.map fR (Rv.F r))))) * (48 : Nat) ≤ (140737488355328 : Nat),
      List.map fR (List.take i (Rv.F r)) ++ List.take (List.length (List.map fR (Rv.F r)) - Int.toNat (Int.ofNat (i + (1 : Nat)))) (List.drop (Int.toNat (Int.ofNat (i + (1 : Nat)))) (List.map fR (Rv.F r))) = List.map fR (List.take i (Rv.F r) ++ List.drop (i + (1 : Nat)) (Rv.F r)),
      Contract Tryz.prog (30 : Nat) [V.ptr (0 : Nat) (0 : Nat) (0 : Nat) (0 : Nat)] [Obj.box [I (Rv.room r), I (Rv.fuse r), V.own (1 : Nat)], Obj.arr (3 : Nat) (List.map fR (List.take i (Rv.F r) ++ List.drop (i + (1 : Nat)) (Rv.F r)))] (V.tup []) [some (Obj.box [I (Rv.room r), I (bif decide (Rv.fuse r > (0 : Int)) then Rv.fuse r + (-1 : Int) else Rv.fuse r), V.own (1 : Nat)]), some (Obj.arr (3 : Nat) (List.map fR (List.take i (Rv.F r) ++ List.drop (i + (1 : Nat)) (Rv.F r))))]] (by kernel_rfl)
    (by
      simp only [allP]
      and_intros <;> first
        | omega
        | exact cRWent (⟨r.room, r.fuse, r.F.take i ++ r.F.drop (i + 1)⟩ : Rv) hfu
        | exact tk3
        | (simp [List.map_take]; done)
        | exact hF
        | (simp [hf]; done)
        | exact i64_small (by simp; omega)
        | (simp; omega))

theorem cRDelA (r : Rv) (s : ByteArray) (i : Nat) (hf : r.fuse ≠ 0) (hfu : r.fuse ≤ 9223372036854775807) (hF : Contract Tryz.prog 29 [.ptr 0 0 0 0, .val (.string s)] [r.box 1, r.arr] (I i) [some (r.box 1), some r.arr]) (hi : i < r.F.length) (hl : r.F.length ≤ 1000000) : Contract Tryz.prog 35 [.ptr 0 0 0 0, .val (.string s)] [r.box 1, r.arr] (I 0) [some ((⟨r.room, r.fuse, r.F.take i ++ r.F.drop (i + 1)⟩ : Rv).went.box 2), some r.arr, some (⟨r.room, r.fuse, r.F.take i ++ r.F.drop (i + 1)⟩ : Rv).went.arr] := by
  exact Contract.cast (by
    first
      | rfl) (by
    first
      | rfl) (cRDelA_0 r s i hf hfu hF hi hl )

theorem cRDelB_0 (r : Rv) (s : ByteArray) (hf : r.fuse ≠ 0) (hF : Contract Tryz.prog 29 [.ptr 0 0 0 0, .val (.string s)] [r.box 1, r.arr] (I (-1)) [some (r.box 1), some r.arr]) : Contract Tryz.prog 35 [.ptr 0 0 0 0, .val (.string s)] [r.box 1, r.arr] (I (4 : Int)) ([some (Obj.box [I (Rv.room r), I (Rv.fuse r), V.own (1 : Nat)]), some (Obj.arr (3 : Nat) (List.map fR (Rv.F r)))]) :=
  vcP hmix [.reg 1 [(4, [], some false)], .reg 3 [(2, [.call [0, 1] [] (I (-1)) [some (r.box 1), some r.arr]], none)], .reg 4 [(1, [], some true)]] [] [
      (Rv.fuse r == (0 : Int)) = false,
      Contract Tryz.prog (29 : Nat) [V.ptr (0 : Nat) (0 : Nat) (0 : Nat) (0 : Nat), Sg s] [Obj.box [I (Rv.room r), I (Rv.fuse r), V.own (1 : Nat)], Obj.arr (3 : Nat) (List.map fR (Rv.F r))] (I (-1 : Int)) [some (Obj.box [I (Rv.room r), I (Rv.fuse r), V.own (1 : Nat)]), some (Obj.arr (3 : Nat) (List.map fR (Rv.F r)))],
      true = true] (by kernel_rfl)
    (by
      simp only [allP]
      and_intros <;> first
        | exact hF
        | (simp [hf]; done))

theorem cRDelB (r : Rv) (s : ByteArray) (hf : r.fuse ≠ 0) (hF : Contract Tryz.prog 29 [.ptr 0 0 0 0, .val (.string s)] [r.box 1, r.arr] (I (-1)) [some (r.box 1), some r.arr]) : Contract Tryz.prog 35 [.ptr 0 0 0 0, .val (.string s)] [r.box 1, r.arr] (I 4) [some (r.box 1), some r.arr] := by
  exact Contract.cast (by
    first
      | rfl) (by
    first
      | rfl) (cRDelB_0 r s hf hF )

theorem cRDelC_0 (r : Rv) (s : ByteArray) (hf : r.fuse = 0) : Contract Tryz.prog 35 [.ptr 0 0 0 0, .val (.string s)] [r.box 1, r.arr] (I (5 : Int)) ([some (Obj.box [I (Rv.room r), I (Rv.fuse r), V.own (1 : Nat)]), some (Obj.arr (3 : Nat) (List.map fR (Rv.F r)))]) :=
  vcP hmix [.reg 1 [(4, [], some true)]] [] [
      (Rv.fuse r == (0 : Int)) = true] (by kernel_rfl)
    (by
      simp only [allP]
      and_intros <;> first
        | (simp [hf]; done))

theorem cRDelC (r : Rv) (s : ByteArray) (hf : r.fuse = 0) : Contract Tryz.prog 35 [.ptr 0 0 0 0, .val (.string s)] [r.box 1, r.arr] (I 5) [some (r.box 1), some r.arr] := by
  exact Contract.cast (by
    first
      | rfl) (by
    first
      | rfl) (cRDelC_0 r s hf )

theorem cRReadA_0 (r : Rv) (s : ByteArray) (x : ByteArray × Fi) (i : Nat) (hF : Contract Tryz.prog 29 [.ptr 0 0 0 0, .val (.string s)] [r.box 1, r.arr] (I i) [some (r.box 1), some r.arr]) (hx : r.F[i]? = some x) (hi : i < r.F.length) (hsx : x.1 = s) : Contract Tryz.prog 34 [.ptr 0 0 0 0, .val (.string s)] [r.box 1, r.arr] (V.tup [V.sl (1 : Nat) (List.map bR (Fi.bs (Prod.snd x))), Bo true]) ([some (Obj.box [I (Rv.room r), I (Rv.fuse r), V.own (1 : Nat)]), some (Obj.arr (3 : Nat) (List.map fR (Rv.F r)))]) :=
  vcP hmix [.reg 1 [(2, [.call [0, 1] [] (I i) [some (r.box 1), some r.arr]], none)], .reg 2 [(1, [], some false)], .reg 4 [(7, [.row (fR x)], none)]] [] [
      Contract Tryz.prog (29 : Nat) [V.ptr (0 : Nat) (0 : Nat) (0 : Nat) (0 : Nat), Sg s] [Obj.box [I (Rv.room r), I (Rv.fuse r), V.own (1 : Nat)], Obj.arr (3 : Nat) (List.map fR (Rv.F r))] (I (Int.ofNat i)) [some (Obj.box [I (Rv.room r), I (Rv.fuse r), V.own (1 : Nat)]), some (Obj.arr (3 : Nat) (List.map fR (Rv.F r)))],
      false = false,
      (0 : Int) ≤ Int.ofNat i,
      Int.ofNat i < Int.ofNat (List.length (List.map fR (Rv.F r))),
      (List.map fR (Rv.F r))[i]? = some (fR x)] (by kernel_rfl)
    (by
      simp only [allP]
      and_intros <;> first
        | exact hF
        | (simp [hx]; done)
        | (simp; omega))

theorem cRReadA (r : Rv) (s : ByteArray) (x : ByteArray × Fi) (i : Nat) (hF : Contract Tryz.prog 29 [.ptr 0 0 0 0, .val (.string s)] [r.box 1, r.arr] (I i) [some (r.box 1), some r.arr]) (hx : r.F[i]? = some x) (hi : i < r.F.length) (hsx : x.1 = s) : Contract Tryz.prog 34 [.ptr 0 0 0 0, .val (.string s)] [r.box 1, r.arr] (.tup [.sl 1 (x.2.bs.map bR), Bo true]) [some (r.box 1), some r.arr] := by
  exact Contract.cast (by
    first
      | rfl) (by
    first
      | rfl) (cRReadA_0 r s x i hF hx hi hsx )

theorem cRReadB_0 (r : Rv) (s : ByteArray) (hF : Contract Tryz.prog 29 [.ptr 0 0 0 0, .val (.string s)] [r.box 1, r.arr] (I (-1)) [some (r.box 1), some r.arr]) : Contract Tryz.prog 34 [.ptr 0 0 0 0, .val (.string s)] [r.box 1, r.arr] (V.tup [V.sl (1 : Nat) [], Bo false]) ([some (Obj.box [I (Rv.room r), I (Rv.fuse r), V.own (1 : Nat)]), some (Obj.arr (3 : Nat) (List.map fR (Rv.F r)))]) :=
  vcP hmix [.reg 1 [(2, [.call [0, 1] [] (I (-1)) [some (r.box 1), some r.arr]], none)], .reg 2 [(1, [], some true)]] [] [
      Contract Tryz.prog (29 : Nat) [V.ptr (0 : Nat) (0 : Nat) (0 : Nat) (0 : Nat), Sg s] [Obj.box [I (Rv.room r), I (Rv.fuse r), V.own (1 : Nat)], Obj.arr (3 : Nat) (List.map fR (Rv.F r))] (I (-1 : Int)) [some (Obj.box [I (Rv.room r), I (Rv.fuse r), V.own (1 : Nat)]), some (Obj.arr (3 : Nat) (List.map fR (Rv.F r)))],
      true = true] (by kernel_rfl)
    (by
      simp only [allP]
      and_intros <;> first
        | exact hF
        | (simp; done))

theorem cRReadB (r : Rv) (s : ByteArray) (hF : Contract Tryz.prog 29 [.ptr 0 0 0 0, .val (.string s)] [r.box 1, r.arr] (I (-1)) [some (r.box 1), some r.arr]) : Contract Tryz.prog 34 [.ptr 0 0 0 0, .val (.string s)] [r.box 1, r.arr] (.tup [.sl 1 [], Bo false]) [some (r.box 1), some r.arr] := by
  exact Contract.cast (by
    first
      | rfl) (by
    first
      | rfl) (cRReadB_0 r s hF )

theorem cRFiles_0 (r : Rv) (hl : r.F.length ≤ 1000000) : Contract Tryz.prog 17 [.ptr 0 0 0 0] [r.box 1, r.arr] (V.sl (3 : Nat) (List.map fR (Rv.F r))) ([some (Obj.box [I (Rv.room r), I (Rv.fuse r), V.own (1 : Nat)]), some (Obj.arr (3 : Nat) (List.map fR (Rv.F r)))]) :=
  vcP hmix [.reg 1 [(4, [.beO (r.F.map fR)], none), (5, [.idx 1], none)]] [] [
      List.length (List.map fR (Rv.F r)) * (48 : Nat) ≤ (140737488355328 : Nat),
      List.map fR (Rv.F r) = List.map fR (Rv.F r)] (by kernel_rfl)
    (by
      simp only [allP]
      and_intros <;> first
        | (simp; omega)
        | (simp; done))

theorem cRFiles (r : Rv) (hl : r.F.length ≤ 1000000) : Contract Tryz.prog 17 [.ptr 0 0 0 0] [r.box 1, r.arr] (.sl 3 (r.F.map fR)) [some (r.box 1), some r.arr] := by
  exact Contract.cast (by
    first
      | rfl) (by
    first
      | rfl) (cRFiles_0 r hl )

theorem cRFuse_0 (r : Rv) (n : Int)  : Contract Tryz.prog 11 [.ptr 0 0 0 0, I n] [r.box 1, r.arr] (V.tup []) ([some (Obj.box [I (Rv.room r), I (capI n (-1 : Int) (9223372036854775807 : Int)), V.own (1 : Nat)]), some (Obj.arr (3 : Nat) (List.map fR (Rv.F r)))]) :=
  vcP hmix [.reg 0 [(2, [.call [] [] (I (capI n (-1) 9223372036854775807)) []], none)]] [] [
      Contract Tryz.prog (21 : Nat) [I n, I (-1 : Int), I (9223372036854775807 : Int)] [] (I (capI n (-1 : Int) (9223372036854775807 : Int))) []] (by kernel_rfl)
    (by
      simp only [allP]
      and_intros <;> first
        | exact cCap ..)

theorem cRFuse (r : Rv) (n : Int)  : Contract Tryz.prog 11 [.ptr 0 0 0 0, I n] [r.box 1, r.arr] (.tup []) [some ((⟨r.room, capI n (-1) 9223372036854775807, r.F⟩ : Rv).box 1), some (⟨r.room, capI n (-1) 9223372036854775807, r.F⟩ : Rv).arr] := by
  exact Contract.cast (by
    first
      | rfl) (by
    first
      | rfl) (cRFuse_0 r n  )

theorem cRNew__0 (n : Int)  : Contract Tryz.prog 7 [I n] [] (V.ptr (0 : Nat) (0 : Nat) (0 : Nat) (0 : Nat)) ([some (Obj.box [I (capI n (0 : Int) (9223372036854775807 : Int)), I (-1 : Int), V.nil])]) :=
  vcP hmix [.reg 1 [(1, [.call [] [] (I (capI n 0 9223372036854775807)) []], none)]] [204000] [
      Contract Tryz.prog (21 : Nat) [I n, I (0 : Int), I (9223372036854775807 : Int)] [] (I (capI n (0 : Int) (9223372036854775807 : Int))) []] (by kernel_rfl)
    (by
      simp only [allP]
      and_intros <;> first
        | exact cCap ..)

theorem cRNew_ (n : Int)  : Contract Tryz.prog 7 [I n] [] (.ptr 0 0 0 0) [some (.box [I (capI n 0 9223372036854775807), I (-1), .nil])] := by
  exact Contract.cast (by
    first
      | rfl) (by
    first
      | rfl) (cRNew__0 n  )

theorem cRNew (n : Int) : Contract Tryz.prog 7 [I n] [] (.ptr 0 0 0 0) [some ((⟨capI n 0 9223372036854775807, -1, []⟩ : Rv).box 1), some (⟨capI n 0 9223372036854775807, -1, []⟩ : Rv).arr] := by
  refine Contract.nilSl (n := 3) (cells' := [I (capI n 0 9223372036854775807), I (-1), .own 1]) (cRNew_ n) (fun h0 h => by simpa only [V.rep, h0] using h) (by simp [idsL, V.ids, I]) (fun {w G τ τ' xs} h0 h1 h => ?_)
  match xs, h with
  | [a, b, c], h => simpa only [repL, V.rep, V.repI, h1, I] using h
end Go.Proofs.YtinfjnnffmlpmaaGreatDoor

/- the reference's device: Rename. -/
namespace Go.Proofs.YtinfjnnffmlpmaaGreatDoor
open E
set_option maxRecDepth 100000
set_option linter.unusedVariables false
set_option linter.unusedSimpArgs false

def rlS (r : Rv) (t : ByteArray) (j : Nat) (p : ByteArray × Fi) (out : Fs) (i : Nat) : SL := ⟨[(0, .ptr 0 0 0 0), (2, .val (.string t)), (7, I j), (8, .ptr 1608000 0 0 0), (9, .own 900), (10, I i)], [(0, r.box 1), (1, r.arr), (1608000, .box (fR p)), (900, .arr 3 (out.map fR))], [0, 1, 1608000, 900, 0, 1]⟩
def rkS (r : Rv) (t : ByteArray) (p : ByteArray × Fi) (out : Fs) (i : Nat) : SL := ⟨[(0, .ptr 0 0 0 0), (2, .val (.string t)), (8, .ptr 1608000 0 0 0), (9, .own 900), (11, I i)], [(0, r.box 1), (1, r.arr), (1608000, .box (fR p)), (900, .arr 3 (out.map fR))], [0, 1, 1608000, 900, 0, 1]⟩
noncomputable def rlB : Code := codeAt Tryz.prog 37 [true, true, true, true, true, true, true, true, false, true, false, false]

noncomputable def rkB : Code := codeAt Tryz.prog 37 [true, true, true, true, true, true, true, true, true, true, false, false, false]

theorem rlG_0 (r : Rv) (t : ByteArray) (p : ByteArray × Fi) (out : Fs) (x : ByteArray × Fi) (j i : Nat) (hx : r.F[i]? = some x) (hi : i < r.F.length) (hl : r.F.length ≤ 1000000) (ho : out.length ≤ 1000000) (hj : i ≠ j) (hb : (!(ByteArray.toList x.1 == ByteArray.toList t)) = true) : CodeC Tryz.prog 2 98 rlB (rlS r t j p out i) (Ex.normal) ({ env := [((0 : Nat), V.ptr (0 : Nat) (0 : Nat) (0 : Nat) (0 : Nat)), ((2 : Nat), Sg t), ((7 : Nat), I (Int.ofNat j)), ((8 : Nat), V.ptr (1608000 : Nat) (0 : Nat) (0 : Nat) (0 : Nat)), ((9 : Nat), V.own (900 : Nat)), ((10 : Nat), I (Int.ofNat (i + (1 : Nat))))], st := [((0 : Nat), Obj.box [I (Rv.room r), I (Rv.fuse r), V.own (1 : Nat)]), ((1 : Nat), Obj.arr (3 : Nat) (List.map fR (Rv.F r))), ((1608000 : Nat), Obj.box [Sg (Prod.fst p), V.sl (1 : Nat) (List.map bR (Fi.bs (Prod.snd p))), I (Fi.sure (Prod.snd p))]), ((900 : Nat), Obj.arr (3 : Nat) (List.map fR (out ++ [x])))], ids := [(0 : Nat), (1 : Nat), (1608000 : Nat), (900 : Nat), (0 : Nat), (1 : Nat)] }) :=
  runP hmix [.reg 12 [(6, [], some true)], .reg 14 [(2, [], some true), (11, [.row (fR x)], none), (13, [], some true)], .reg 15 [(7, [.row (fR x)], none), (9, [.beO ((out ++ [x]).map fR)], none)], .reg 13 [(1, [.be (I ((i + 1 : Nat) : Int))], none)]] ⟨[0, 2, 7, 8, 9, 10], [(0, 0), (1, 1), (1608000, 1608000), (3010000, 900)], []⟩ [
      decide (Int.ofNat i < Int.ofNat (List.length (List.map fR (Rv.F r)))) = true,
      (Int.ofNat i != Int.ofNat j) = true,
      (0 : Int) ≤ Int.ofNat i,
      Int.ofNat i < Int.ofNat (List.length (List.map fR (Rv.F r))),
      (List.map fR (Rv.F r))[i]? = some (fR x),
      (!ByteArray.toList (Prod.fst x) == ByteArray.toList t) = true,
      (0 : Int) ≤ Int.ofNat i,
      Int.ofNat i < Int.ofNat (List.length (List.map fR (Rv.F r))),
      (List.map fR (Rv.F r))[i]? = some (fR x),
      (List.length (List.map fR out) + (1 : Nat)) * (48 : Nat) ≤ (140737488355328 : Nat),
      List.map fR out ++ [[Sg (Prod.fst x), V.sl (1 : Nat) (List.map bR (Fi.bs (Prod.snd x))), I (Fi.sure (Prod.snd x))]] = List.map fR (out ++ [x]),
      IntKind.wrap IntKind.i64 (Int.ofNat (i + (1 : Nat))) = Int.ofNat (i + (1 : Nat))] (by kernel_rfl)
    (by
      simp only [allP]
      and_intros <;> first
        | omega
        | (rw [List.map_append]; rfl)
        | exact i64_small (by simp; omega)
        | (simp [hx]; done)
        | (simp; omega))

theorem rlG (r : Rv) (t : ByteArray) (p : ByteArray × Fi) (out : Fs) (x : ByteArray × Fi) (j i : Nat) (hx : r.F[i]? = some x) (hi : i < r.F.length) (hl : r.F.length ≤ 1000000) (ho : out.length ≤ 1000000) (hj : i ≠ j) (hb : (!(ByteArray.toList x.1 == ByteArray.toList t)) = true)  : CodeC Tryz.prog 2 98 rlB (rlS r t j p out i) .normal (rlS r t j p (out ++ [x]) (i + 1)) := by
  exact CodeC.cast (by
    first
      | rfl) (rlG_0 r t p out x j i hx hi hl ho hj hb )

theorem rlP_0 (r : Rv) (t : ByteArray) (p : ByteArray × Fi) (out : Fs) (x : ByteArray × Fi) (j i : Nat) (hx : r.F[i]? = some x) (hi : i < r.F.length) (hl : r.F.length ≤ 1000000) (ho : out.length ≤ 1000000) (hj : i ≠ j) (hb : (!(ByteArray.toList x.1 == ByteArray.toList t)) = false) : CodeC Tryz.prog 2 98 rlB (rlS r t j p out i) (Ex.normal) ({ env := [((0 : Nat), V.ptr (0 : Nat) (0 : Nat) (0 : Nat) (0 : Nat)), ((2 : Nat), Sg t), ((7 : Nat), I (Int.ofNat j)), ((8 : Nat), V.ptr (1608000 : Nat) (0 : Nat) (0 : Nat) (0 : Nat)), ((9 : Nat), V.own (900 : Nat)), ((10 : Nat), I (Int.ofNat (i + (1 : Nat))))], st := [((0 : Nat), Obj.box [I (Rv.room r), I (Rv.fuse r), V.own (1 : Nat)]), ((1 : Nat), Obj.arr (3 : Nat) (List.map fR (Rv.F r))), ((1608000 : Nat), Obj.box [Sg (Prod.fst p), V.sl (1 : Nat) (List.map bR (Fi.bs (Prod.snd p))), I (Fi.sure (Prod.snd p))]), ((900 : Nat), Obj.arr (3 : Nat) (List.map fR out))], ids := [(0 : Nat), (1 : Nat), (1608000 : Nat), (900 : Nat), (0 : Nat), (1 : Nat)] }) :=
  runP hmix [.reg 12 [(6, [], some true)], .reg 14 [(2, [], some true), (11, [.row (fR x)], none), (13, [], some false)], .reg 13 [(1, [.be (I ((i + 1 : Nat) : Int))], none)]] ⟨[0, 2, 7, 8, 9, 10], [(0, 0), (1, 1), (1608000, 1608000), (900, 900)], []⟩ [
      decide (Int.ofNat i < Int.ofNat (List.length (List.map fR (Rv.F r)))) = true,
      (Int.ofNat i != Int.ofNat j) = true,
      (0 : Int) ≤ Int.ofNat i,
      Int.ofNat i < Int.ofNat (List.length (List.map fR (Rv.F r))),
      (List.map fR (Rv.F r))[i]? = some (fR x),
      (!ByteArray.toList (Prod.fst x) == ByteArray.toList t) = false,
      IntKind.wrap IntKind.i64 (Int.ofNat (i + (1 : Nat))) = Int.ofNat (i + (1 : Nat))] (by kernel_rfl)
    (by
      simp only [allP]
      and_intros <;> first
        | omega
        | exact i64_small (by simp; omega)
        | (simp [hx]; done)
        | (simp; omega))

theorem rlP (r : Rv) (t : ByteArray) (p : ByteArray × Fi) (out : Fs) (x : ByteArray × Fi) (j i : Nat) (hx : r.F[i]? = some x) (hi : i < r.F.length) (hl : r.F.length ≤ 1000000) (ho : out.length ≤ 1000000) (hj : i ≠ j) (hb : (!(ByteArray.toList x.1 == ByteArray.toList t)) = false)  : CodeC Tryz.prog 2 98 rlB (rlS r t j p out i) .normal (rlS r t j p out (i + 1)) := by
  exact CodeC.cast (by
    first
      | rfl) (rlP_0 r t p out x j i hx hi hl ho hj hb )

theorem rlQ_0 (r : Rv) (t : ByteArray) (p : ByteArray × Fi) (out : Fs) (x : ByteArray × Fi) (j i : Nat) (hx : r.F[i]? = some x) (hi : i < r.F.length) (hl : r.F.length ≤ 1000000) (ho : out.length ≤ 1000000) (hj : i = j) : CodeC Tryz.prog 2 98 rlB (rlS r t j p out i) (Ex.normal) ({ env := [((0 : Nat), V.ptr (0 : Nat) (0 : Nat) (0 : Nat) (0 : Nat)), ((2 : Nat), Sg t), ((7 : Nat), I (Int.ofNat j)), ((8 : Nat), V.ptr (1608000 : Nat) (0 : Nat) (0 : Nat) (0 : Nat)), ((9 : Nat), V.own (900 : Nat)), ((10 : Nat), I (Int.ofNat (i + (1 : Nat))))], st := [((0 : Nat), Obj.box [I (Rv.room r), I (Rv.fuse r), V.own (1 : Nat)]), ((1 : Nat), Obj.arr (3 : Nat) (List.map fR (Rv.F r))), ((1608000 : Nat), Obj.box [Sg (Prod.fst p), V.sl (1 : Nat) (List.map bR (Fi.bs (Prod.snd p))), I (Fi.sure (Prod.snd p))]), ((900 : Nat), Obj.arr (3 : Nat) (List.map fR out))], ids := [(0 : Nat), (1 : Nat), (1608000 : Nat), (900 : Nat), (0 : Nat), (1 : Nat)] }) :=
  runP hmix [.reg 12 [(6, [], some true)], .reg 14 [(2, [], some false)], .reg 13 [(1, [.be (I ((i + 1 : Nat) : Int))], none)]] ⟨[0, 2, 7, 8, 9, 10], [(0, 0), (1, 1), (1608000, 1608000), (900, 900)], []⟩ [
      decide (Int.ofNat i < Int.ofNat (List.length (List.map fR (Rv.F r)))) = true,
      (Int.ofNat i != Int.ofNat j) = false,
      IntKind.wrap IntKind.i64 (Int.ofNat (i + (1 : Nat))) = Int.ofNat (i + (1 : Nat))] (by kernel_rfl)
    (by
      simp only [allP]
      and_intros <;> first
        | exact i64_small (by simp; omega)
        | (simp; omega))

theorem rlQ (r : Rv) (t : ByteArray) (p : ByteArray × Fi) (out : Fs) (x : ByteArray × Fi) (j i : Nat) (hx : r.F[i]? = some x) (hi : i < r.F.length) (hl : r.F.length ≤ 1000000) (ho : out.length ≤ 1000000) (hj : i = j)  : CodeC Tryz.prog 2 98 rlB (rlS r t j p out i) .normal (rlS r t j p out (i + 1)) := by
  exact CodeC.cast (by
    first
      | rfl) (rlQ_0 r t p out x j i hx hi hl ho hj )

theorem rlE_0 (r : Rv) (t : ByteArray) (p : ByteArray × Fi) (out : Fs) (j i : Nat) (h : r.F.length ≤ i) : CodeC Tryz.prog 2 98 rlB (rlS r t j p out i) (Ex.exit (0 : Nat)) ({ env := [((0 : Nat), V.ptr (0 : Nat) (0 : Nat) (0 : Nat) (0 : Nat)), ((2 : Nat), Sg t), ((7 : Nat), I (Int.ofNat j)), ((8 : Nat), V.ptr (1608000 : Nat) (0 : Nat) (0 : Nat) (0 : Nat)), ((9 : Nat), V.own (900 : Nat)), ((10 : Nat), I (Int.ofNat i))], st := [((0 : Nat), Obj.box [I (Rv.room r), I (Rv.fuse r), V.own (1 : Nat)]), ((1 : Nat), Obj.arr (3 : Nat) (List.map fR (Rv.F r))), ((1608000 : Nat), Obj.box [Sg (Prod.fst p), V.sl (1 : Nat) (List.map bR (Fi.bs (Prod.snd p))), I (Fi.sure (Prod.snd p))]), ((900 : Nat), Obj.arr (3 : Nat) (List.map fR out))], ids := [(0 : Nat), (1 : Nat), (1608000 : Nat), (900 : Nat), (0 : Nat), (1 : Nat)] }) :=
  runP hmix [.reg 12 [(6, [], some false)]] ⟨[0, 2, 7, 8, 9, 10], [(0, 0), (1, 1), (1608000, 1608000), (900, 900)], []⟩ [
      decide (Int.ofNat i < Int.ofNat (List.length (List.map fR (Rv.F r)))) = false] (by kernel_rfl)
    (by
      simp only [allP]
      and_intros <;> first
        | (simp; omega))

theorem rlE (r : Rv) (t : ByteArray) (p : ByteArray × Fi) (out : Fs) (j i : Nat) (h : r.F.length ≤ i)  : CodeC Tryz.prog 2 98 rlB (rlS r t j p out i) (.exit 0) (rlS r t j p out i) := by
  exact CodeC.cast (by
    first
      | rfl) (rlE_0 r t p out j i h )

theorem rkG_0 (r : Rv) (t : ByteArray) (p : ByteArray × Fi) (out : Fs) (x : ByteArray × Fi) (i : Nat) (hx : out[i]? = some x) (hi : i < out.length) (hl : out.length ≤ 1000000) (hb : ltS x.1 t = true) : CodeC Tryz.prog 2 98 rkB (rkS r t p out i) (Ex.normal) ({ env := [((0 : Nat), V.ptr (0 : Nat) (0 : Nat) (0 : Nat) (0 : Nat)), ((2 : Nat), Sg t), ((8 : Nat), V.ptr (1608000 : Nat) (0 : Nat) (0 : Nat) (0 : Nat)), ((9 : Nat), V.own (900 : Nat)), ((11 : Nat), I (Int.ofNat (i + (1 : Nat))))], st := [((0 : Nat), Obj.box [I (Rv.room r), I (Rv.fuse r), V.own (1 : Nat)]), ((1 : Nat), Obj.arr (3 : Nat) (List.map fR (Rv.F r))), ((1608000 : Nat), Obj.box [Sg (Prod.fst p), V.sl (1 : Nat) (List.map bR (Fi.bs (Prod.snd p))), I (Fi.sure (Prod.snd p))]), ((900 : Nat), Obj.arr (3 : Nat) (List.map fR out))], ids := [(0 : Nat), (1 : Nat), (1608000 : Nat), (900 : Nat), (0 : Nat), (1 : Nat)] }) :=
  runP hmix [.reg 17 [(3, [], some true), (9, [.row (fR x)], none), (11, [], some true)], .reg 18 [(1, [.be (I ((i + 1 : Nat) : Int))], none)]] ⟨[0, 2, 8, 9, 11], [(0, 0), (1, 1), (1608000, 1608000), (900, 900)], []⟩ [
      decide (Int.ofNat i < Int.ofNat (List.length (List.map fR out))) = true,
      (0 : Int) ≤ Int.ofNat i,
      Int.ofNat i < Int.ofNat (List.length (List.map fR out)),
      (List.map fR out)[i]? = some (fR x),
      Op.bytesLess (ByteArray.toList (Prod.fst x)) (ByteArray.toList t) = true,
      IntKind.wrap IntKind.i64 (Int.ofNat (i + (1 : Nat))) = Int.ofNat (i + (1 : Nat))] (by kernel_rfl)
    (by
      simp only [allP]
      and_intros <;> first
        | exact hb
        | exact i64_small (by simp; omega)
        | (simp [hx]; done)
        | (simp; omega))

theorem rkG (r : Rv) (t : ByteArray) (p : ByteArray × Fi) (out : Fs) (x : ByteArray × Fi) (i : Nat) (hx : out[i]? = some x) (hi : i < out.length) (hl : out.length ≤ 1000000) (hb : ltS x.1 t = true)  : CodeC Tryz.prog 2 98 rkB (rkS r t p out i) .normal (rkS r t p out (i + 1)) := by
  exact CodeC.cast (by
    first
      | rfl) (rkG_0 r t p out x i hx hi hl hb )

theorem rkP_0 (r : Rv) (t : ByteArray) (p : ByteArray × Fi) (out : Fs) (x : ByteArray × Fi) (i : Nat) (hx : out[i]? = some x) (hi : i < out.length) (hl : out.length ≤ 1000000) (hb : ltS x.1 t = false) : CodeC Tryz.prog 2 98 rkB (rkS r t p out i) (Ex.exit (2 : Nat)) ({ env := [((0 : Nat), V.ptr (0 : Nat) (0 : Nat) (0 : Nat) (0 : Nat)), ((2 : Nat), Sg t), ((8 : Nat), V.ptr (1608000 : Nat) (0 : Nat) (0 : Nat) (0 : Nat)), ((9 : Nat), V.own (900 : Nat)), ((11 : Nat), I (Int.ofNat i))], st := [((0 : Nat), Obj.box [I (Rv.room r), I (Rv.fuse r), V.own (1 : Nat)]), ((1 : Nat), Obj.arr (3 : Nat) (List.map fR (Rv.F r))), ((1608000 : Nat), Obj.box [Sg (Prod.fst p), V.sl (1 : Nat) (List.map bR (Fi.bs (Prod.snd p))), I (Fi.sure (Prod.snd p))]), ((900 : Nat), Obj.arr (3 : Nat) (List.map fR out))], ids := [(0 : Nat), (1 : Nat), (1608000 : Nat), (900 : Nat), (0 : Nat), (1 : Nat)] }) :=
  runP hmix [.reg 17 [(3, [], some true), (9, [.row (fR x)], none), (11, [], some false)]] ⟨[0, 2, 8, 9, 11], [(0, 0), (1, 1), (1608000, 1608000), (900, 900)], []⟩ [
      decide (Int.ofNat i < Int.ofNat (List.length (List.map fR out))) = true,
      (0 : Int) ≤ Int.ofNat i,
      Int.ofNat i < Int.ofNat (List.length (List.map fR out)),
      (List.map fR out)[i]? = some (fR x),
      Op.bytesLess (ByteArray.toList (Prod.fst x)) (ByteArray.toList t) = false] (by kernel_rfl)
    (by
      simp only [allP]
      and_intros <;> first
        | exact hb
        | (simp [hx]; done)
        | (simp; omega))

theorem rkP (r : Rv) (t : ByteArray) (p : ByteArray × Fi) (out : Fs) (x : ByteArray × Fi) (i : Nat) (hx : out[i]? = some x) (hi : i < out.length) (hl : out.length ≤ 1000000) (hb : ltS x.1 t = false)  : CodeC Tryz.prog 2 98 rkB (rkS r t p out i) (.exit 2) (rkS r t p out i) := by
  exact CodeC.cast (by
    first
      | rfl) (rkP_0 r t p out x i hx hi hl hb )

theorem rkE_0 (r : Rv) (t : ByteArray) (p : ByteArray × Fi) (out : Fs) (i : Nat) (h : out.length ≤ i) : CodeC Tryz.prog 2 98 rkB (rkS r t p out i) (Ex.exit (2 : Nat)) ({ env := [((0 : Nat), V.ptr (0 : Nat) (0 : Nat) (0 : Nat) (0 : Nat)), ((2 : Nat), Sg t), ((8 : Nat), V.ptr (1608000 : Nat) (0 : Nat) (0 : Nat) (0 : Nat)), ((9 : Nat), V.own (900 : Nat)), ((11 : Nat), I (Int.ofNat i))], st := [((0 : Nat), Obj.box [I (Rv.room r), I (Rv.fuse r), V.own (1 : Nat)]), ((1 : Nat), Obj.arr (3 : Nat) (List.map fR (Rv.F r))), ((1608000 : Nat), Obj.box [Sg (Prod.fst p), V.sl (1 : Nat) (List.map bR (Fi.bs (Prod.snd p))), I (Fi.sure (Prod.snd p))]), ((900 : Nat), Obj.arr (3 : Nat) (List.map fR out))], ids := [(0 : Nat), (1 : Nat), (1608000 : Nat), (900 : Nat), (0 : Nat), (1 : Nat)] }) :=
  runP hmix [.reg 17 [(3, [], some false)]] ⟨[0, 2, 8, 9, 11], [(0, 0), (1, 1), (1608000, 1608000), (900, 900)], []⟩ [
      decide (Int.ofNat i < Int.ofNat (List.length (List.map fR out))) = false] (by kernel_rfl)
    (by
      simp only [allP]
      and_intros <;> first
        | (simp; omega))

theorem rkE (r : Rv) (t : ByteArray) (p : ByteArray × Fi) (out : Fs) (i : Nat) (h : out.length ≤ i)  : CodeC Tryz.prog 2 98 rkB (rkS r t p out i) (.exit 2) (rkS r t p out i) := by
  exact CodeC.cast (by
    first
      | rfl) (rkE_0 r t p out i h )

theorem cRRenC_0 (r : Rv) (s t : ByteArray) (hf : r.fuse = 0) : Contract Tryz.prog 37 [.ptr 0 0 0 0, .val (.string s), .val (.string t)] [r.box 1, r.arr] (I (5 : Int)) ([some (Obj.box [I (Rv.room r), I (Rv.fuse r), V.own (1 : Nat)]), some (Obj.arr (3 : Nat) (List.map fR (Rv.F r)))]) :=
  vcP hmix [.reg 1 [(4, [], some true)]] [] [
      (Rv.fuse r == (0 : Int)) = true] (by kernel_rfl)
    (by
      simp only [allP]
      and_intros <;> first
        | (simp [hf]; done))

theorem cRRenC (r : Rv) (s t : ByteArray) (hf : r.fuse = 0) : Contract Tryz.prog 37 [.ptr 0 0 0 0, .val (.string s), .val (.string t)] [r.box 1, r.arr] (I 5) [some (r.box 1), some r.arr] := by
  exact Contract.cast (by
    first
      | rfl) (by
    first
      | rfl) (cRRenC_0 r s t hf )

theorem cRRenB_0 (r : Rv) (s t : ByteArray) (hf : r.fuse ≠ 0) (hF : Contract Tryz.prog 29 [.ptr 0 0 0 0, .val (.string s)] [r.box 1, r.arr] (I (-1)) [some (r.box 1), some r.arr]) : Contract Tryz.prog 37 [.ptr 0 0 0 0, .val (.string s), .val (.string t)] [r.box 1, r.arr] (I (4 : Int)) ([some (Obj.box [I (Rv.room r), I (Rv.fuse r), V.own (1 : Nat)]), some (Obj.arr (3 : Nat) (List.map fR (Rv.F r)))]) :=
  vcP hmix [.reg 1 [(4, [], some false)], .reg 3 [(2, [.call [0, 1] [] (I (-1)) [some (r.box 1), some r.arr]], none)], .reg 4 [(1, [], some true)]] [] [
      (Rv.fuse r == (0 : Int)) = false,
      Contract Tryz.prog (29 : Nat) [V.ptr (0 : Nat) (0 : Nat) (0 : Nat) (0 : Nat), Sg s] [Obj.box [I (Rv.room r), I (Rv.fuse r), V.own (1 : Nat)], Obj.arr (3 : Nat) (List.map fR (Rv.F r))] (I (-1 : Int)) [some (Obj.box [I (Rv.room r), I (Rv.fuse r), V.own (1 : Nat)]), some (Obj.arr (3 : Nat) (List.map fR (Rv.F r)))],
      true = true] (by kernel_rfl)
    (by
      simp only [allP]
      and_intros <;> first
        | exact hF
        | (simp [hf]; done))

theorem cRRenB (r : Rv) (s t : ByteArray) (hf : r.fuse ≠ 0) (hF : Contract Tryz.prog 29 [.ptr 0 0 0 0, .val (.string s)] [r.box 1, r.arr] (I (-1)) [some (r.box 1), some r.arr]) : Contract Tryz.prog 37 [.ptr 0 0 0 0, .val (.string s), .val (.string t)] [r.box 1, r.arr] (I 4) [some (r.box 1), some r.arr] := by
  exact Contract.cast (by
    first
      | rfl) (by
    first
      | rfl) (cRRenB_0 r s t hf hF )

theorem cRRenE_0 (r : Rv) (s t : ByteArray) (i : Nat) (hf : r.fuse ≠ 0) (ht : (ByteArray.toList t == []) = true) (hF : Contract Tryz.prog 29 [.ptr 0 0 0 0, .val (.string s)] [r.box 1, r.arr] (I i) [some (r.box 1), some r.arr]) : Contract Tryz.prog 37 [.ptr 0 0 0 0, .val (.string s), .val (.string t)] [r.box 1, r.arr] (I (1 : Int)) ([some (Obj.box [I (Rv.room r), I (Rv.fuse r), V.own (1 : Nat)]), some (Obj.arr (3 : Nat) (List.map fR (Rv.F r)))]) :=
  vcP hmix [.reg 1 [(4, [], some false)], .reg 3 [(2, [.call [0, 1] [] (I i) [some (r.box 1), some r.arr]], none)], .reg 4 [(1, [], some false)], .reg 6 [(1, [], some true)]] [] [
      (Rv.fuse r == (0 : Int)) = false,
      Contract Tryz.prog (29 : Nat) [V.ptr (0 : Nat) (0 : Nat) (0 : Nat) (0 : Nat), Sg s] [Obj.box [I (Rv.room r), I (Rv.fuse r), V.own (1 : Nat)], Obj.arr (3 : Nat) (List.map fR (Rv.F r))] (I (Int.ofNat i)) [some (Obj.box [I (Rv.room r), I (Rv.fuse r), V.own (1 : Nat)]), some (Obj.arr (3 : Nat) (List.map fR (Rv.F r)))],
      false = false,
      (ByteArray.toList t == []) = true] (by kernel_rfl)
    (by
      simp only [allP]
      and_intros <;> first
        | omega
        | exact hF
        | (simp [hf]; done))

theorem cRRenE (r : Rv) (s t : ByteArray) (i : Nat) (hf : r.fuse ≠ 0) (ht : (ByteArray.toList t == []) = true) (hF : Contract Tryz.prog 29 [.ptr 0 0 0 0, .val (.string s)] [r.box 1, r.arr] (I i) [some (r.box 1), some r.arr]) : Contract Tryz.prog 37 [.ptr 0 0 0 0, .val (.string s), .val (.string t)] [r.box 1, r.arr] (I 1) [some (r.box 1), some r.arr] := by
  exact Contract.cast (by
    first
      | rfl) (by
    first
      | rfl) (cRRenE_0 r s t i hf ht hF )

theorem cRRenA_0 (r : Rv) (s t : ByteArray) (x : ByteArray × Fi) (j k i : Nat) (out : Fs) (hf : r.fuse ≠ 0) (hfu : r.fuse ≤ 9223372036854775807) (ht : (ByteArray.toList t == []) = false) (hF : Contract Tryz.prog 29 [.ptr 0 0 0 0, .val (.string s)] [r.box 1, r.arr] (I j) [some (r.box 1), some r.arr]) (hx : r.F[j]? = some x) (hj : j < r.F.length) (hl : out.length ≤ 1000000) (hk : k ≤ out.length) (hL : LoopC Tryz.prog 2 98 rlB (rlS r t j (t, (⟨x.2.bs, x.2.sure⟩ : Fi)) [] 0) (.exit 0) (rlS r t j (t, (⟨x.2.bs, x.2.sure⟩ : Fi)) out i)) (hK : LoopC Tryz.prog 2 98 rkB (rkS r t (t, (⟨x.2.bs, x.2.sure⟩ : Fi)) out 0) (.exit 2) (rkS r t (t, (⟨x.2.bs, x.2.sure⟩ : Fi)) out k)) : Contract Tryz.prog 37 [.ptr 0 0 0 0, .val (.string s), .val (.string t)] [r.box 1, r.arr] (I (0 : Int)) ([some (Obj.box [I (Rv.room r), I (bif decide (Rv.fuse r > (0 : Int)) then Rv.fuse r + (-1 : Int) else Rv.fuse r), V.own (2 : Nat)]), some (Obj.arr (3 : Nat) (List.map fR (Rv.F r))), some (Obj.arr (3 : Nat) (List.map fR (insF out k (t, { bs := Fi.bs (Prod.snd x), sure := Fi.sure (Prod.snd x) }))))]) :=
  vcP hmix [.reg 1 [(4, [], some false)], .reg 3 [(2, [.call [0, 1] [] (I j) [some (r.box 1), some r.arr]], none)], .reg 4 [(1, [], some false)], .reg 6 [(1, [], some false)], .reg 8 [(6, [.row (fR x)], none)], .reg 10 [(0, [.idx 3], none)], .cut ⟨[0, 2, 7, 8, 9, 10], [(0, 0), (1, 1), (1608000, 1608000), (2001000, 900)], []⟩ (.exit 0) (rlS r t j (t, (⟨x.2.bs, x.2.sure⟩ : Fi)) out i), .cut ⟨[0, 2, 8, 9, 11], [(0, 0), (1, 1), (1608000, 1608000), (900, 900)], []⟩ (.exit 2) (rkS r t (t, (⟨x.2.bs, x.2.sure⟩ : Fi)) out k), .reg 19 [(3, [.idx 0], none), (4, [.beO ((out.take k).map fR)], none), (7, [.beO ((out.take k ++ [(t, (⟨x.2.bs, x.2.sure⟩ : Fi))]).map fR)], none), (10, [.idx 0], none), (11, [.beO ((insF out k (t, (⟨x.2.bs, x.2.sure⟩ : Fi))).map fR)], none)], .reg 20 [(1, [.call [0, 3812000] [] (.tup []) [some ((⟨r.room, r.fuse, insF out k (t, (⟨x.2.bs, x.2.sure⟩ : Fi))⟩ : Rv).went.box 1), some (⟨r.room, r.fuse, insF out k (t, (⟨x.2.bs, x.2.sure⟩ : Fi))⟩ : Rv).went.arr]], none)]] [3812000] [
      (Rv.fuse r == (0 : Int)) = false,
      Contract Tryz.prog (29 : Nat) [V.ptr (0 : Nat) (0 : Nat) (0 : Nat) (0 : Nat), Sg s] [Obj.box [I (Rv.room r), I (Rv.fuse r), V.own (1 : Nat)], Obj.arr (3 : Nat) (List.map fR (Rv.F r))] (I (Int.ofNat j)) [some (Obj.box [I (Rv.room r), I (Rv.fuse r), V.own (1 : Nat)]), some (Obj.arr (3 : Nat) (List.map fR (Rv.F r)))],
      false = false,
      (ByteArray.toList t == []) = false,
      (0 : Int) ≤ Int.ofNat j,
      Int.ofNat j < Int.ofNat (List.length (List.map fR (Rv.F r))),
      (List.map fR (Rv.F r))[j]? = some (fR x),
      LoopC Tryz.prog (2 : Nat) (98 : Nat) rlB { env := [((0 : Nat), V.ptr (0 : Nat) (0 : Nat) (0 : Nat) (0 : Nat)), ((2 : Nat), Sg t), ((7 : Nat), I (Int.ofNat j)), ((8 : Nat), V.ptr (1608000 : Nat) (0 : Nat) (0 : Nat) (0 : Nat)), ((9 : Nat), V.own (900 : Nat)), ((10 : Nat), I (0 : Int))], st := [((0 : Nat), Obj.box [I (Rv.room r), I (Rv.fuse r), V.own (1 : Nat)]), ((1 : Nat), Obj.arr (3 : Nat) (List.map fR (Rv.F r))), ((1608000 : Nat), Obj.box [Sg t, V.sl (1 : Nat) (List.map bR (Fi.bs (Prod.snd x))), I (Fi.sure (Prod.snd x))]), ((900 : Nat), Obj.arr (3 : Nat) [])], ids := [(0 : Nat), (1 : Nat), (1608000 : Nat), (900 : Nat), (0 : Nat), (1 : Nat)] } (Ex.exit (0 : Nat)) { env := [((0 : Nat), V.ptr (0 : Nat) (0 : Nat) (0 : Nat) (0 : Nat)), ((2 : Nat), Sg t), ((7 : Nat), I (Int.ofNat j)), ((8 : Nat), V.ptr (1608000 : Nat) (0 : Nat) (0 : Nat) (0 : Nat)), ((9 : Nat), V.own (900 : Nat)), ((10 : Nat), I (Int.ofNat i))], st := [((0 : Nat), Obj.box [I (Rv.room r), I (Rv.fuse r), V.own (1 : Nat)]), ((1 : Nat), Obj.arr (3 : Nat) (List.map fR (Rv.F r))), ((1608000 : Nat), Obj.box (fR (t, { bs := Fi.bs (Prod.snd x), sure := Fi.sure (Prod.snd x) }))), ((900 : Nat), Obj.arr (3 : Nat) (List.map fR out))], ids := [(0 : Nat), (1 : Nat), (1608000 : Nat), (900 : Nat), (0 : Nat), (1 : Nat)] },
      LoopC Tryz.prog (2 : Nat) (98 : Nat) rkB { env := [((0 : Nat), V.ptr (0 : Nat) (0 : Nat) (0 : Nat) (0 : Nat)), ((2 : Nat), Sg t), ((8 : Nat), V.ptr (1608000 : Nat) (0 : Nat) (0 : Nat) (0 : Nat)), ((9 : Nat), V.own (900 : Nat)), ((11 : Nat), I (0 : Int))], st := [((0 : Nat), Obj.box [I (Rv.room r), I (Rv.fuse r), V.own (1 : Nat)]), ((1 : Nat), Obj.arr (3 : Nat) (List.map fR (Rv.F r))), ((1608000 : Nat), Obj.box [Sg t, V.sl (1 : Nat) (List.map bR (Fi.bs (Prod.snd x))), I (Fi.sure (Prod.snd x))]), ((900 : Nat), Obj.arr (3 : Nat) (List.map fR out))], ids := [(0 : Nat), (1 : Nat), (1608000 : Nat), (900 : Nat), (0 : Nat), (1 : Nat)] } (Ex.exit (2 : Nat)) { env := [((0 : Nat), V.ptr (0 : Nat) (0 : Nat) (0 : Nat) (0 : Nat)), ((2 : Nat), Sg t), ((8 : Nat), V.ptr (1608000 : Nat) (0 : Nat) (0 : Nat) (0 : Nat)), ((9 : Nat), V.own (900 : Nat)), ((11 : Nat), I (Int.ofNat k))], st := [((0 : Nat), Obj.box [I (Rv.room r), I (Rv.fuse r), V.own (1 : Nat)]), ((1 : Nat), Obj.arr (3 : Nat) (List.map fR (Rv.F r))), ((1608000 : Nat), Obj.box (fR (t, { bs := Fi.bs (Prod.snd x), sure := Fi.sure (Prod.snd x) }))), ((900 : Nat), Obj.arr (3 : Nat) (List.map fR out))], ids := [(0 : Nat), (1 : Nat), (1608000 : Nat), (900 : Nat), (0 : Nat), (1 : Nat)] },
      (0 : Int) ≤ (0 : Int),
      (0 : Int) ≤ Int.ofNat k,
      k ≤ List.length (List.map fR out),
      k ≤ List.length (List.map fR out),
      List.length (List.take k (List.map fR out)) * (48 : Nat) ≤ (140737488355328 : Nat),
      List.take k (List.map fR out) = List.map fR (List.take k out),
      (List.length (List.map fR (List.take k out)) + (1 : Nat)) * (48 : Nat) ≤ (140737488355328 : Nat),
      List.map fR (List.take k out) ++ [[Sg t, V.sl (1 : Nat) (List.map bR (Fi.bs (Prod.snd x))), I (Fi.sure (Prod.snd x))]] = List.map fR (List.take k out ++ [(t, { bs := Fi.bs (Prod.snd x), sure := Fi.sure (Prod.snd x) })]),
      (0 : Int) ≤ Int.ofNat k,
      Int.ofNat k ≤ Int.ofNat (List.length (List.map fR out)),
      List.length (List.map fR out) ≤ List.length (List.map fR out),
      List.length (List.map fR out) ≤ List.length (List.map fR out),
      (List.length (List.map fR (List.take k out ++ [(t, { bs := Fi.bs (Prod.snd x), sure := Fi.sure (Prod.snd x) })])) + List.length (List.take (List.length (List.map fR out) - k) (List.drop k (List.map fR out)))) * (48 : Nat) ≤ (140737488355328 : Nat),
      List.map fR (List.take k out ++ [(t, { bs := Fi.bs (Prod.snd x), sure := Fi.sure (Prod.snd x) })]) ++ List.take (List.length (List.map fR out) - k) (List.drop k (List.map fR out)) = List.map fR (insF out k (t, { bs := Fi.bs (Prod.snd x), sure := Fi.sure (Prod.snd x) })),
      Contract Tryz.prog (30 : Nat) [V.ptr (0 : Nat) (0 : Nat) (0 : Nat) (0 : Nat)] [Obj.box [I (Rv.room r), I (Rv.fuse r), V.own (1 : Nat)], Obj.arr (3 : Nat) (List.map fR (insF out k (t, { bs := Fi.bs (Prod.snd x), sure := Fi.sure (Prod.snd x) })))] (V.tup []) [some (Obj.box [I (Rv.room r), I (bif decide (Rv.fuse r > (0 : Int)) then Rv.fuse r + (-1 : Int) else Rv.fuse r), V.own (1 : Nat)]), some (Obj.arr (3 : Nat) (List.map fR (insF out k (t, { bs := Fi.bs (Prod.snd x), sure := Fi.sure (Prod.snd x) }))))]] (by kernel_rfl)
    (by
      simp only [allP]
      and_intros <;> first
        | omega
        | exact hL
        | exact hK
        | exact cRWent (⟨r.room, r.fuse, insF out k (t, (⟨x.2.bs, x.2.sure⟩ : Fi))⟩ : Rv) hfu
        | (rw [List.map_append]; rfl)
        | exact ins3
        | (simp [List.map_take]; done)
        | exact hF
        | (simp [hf]; done)
        | (simp [hx]; done)
        | (simp; omega))

theorem cRRenA (r : Rv) (s t : ByteArray) (x : ByteArray × Fi) (j k i : Nat) (out : Fs) (hf : r.fuse ≠ 0) (hfu : r.fuse ≤ 9223372036854775807) (ht : (ByteArray.toList t == []) = false) (hF : Contract Tryz.prog 29 [.ptr 0 0 0 0, .val (.string s)] [r.box 1, r.arr] (I j) [some (r.box 1), some r.arr]) (hx : r.F[j]? = some x) (hj : j < r.F.length) (hl : out.length ≤ 1000000) (hk : k ≤ out.length) (hL : LoopC Tryz.prog 2 98 rlB (rlS r t j (t, (⟨x.2.bs, x.2.sure⟩ : Fi)) [] 0) (.exit 0) (rlS r t j (t, (⟨x.2.bs, x.2.sure⟩ : Fi)) out i)) (hK : LoopC Tryz.prog 2 98 rkB (rkS r t (t, (⟨x.2.bs, x.2.sure⟩ : Fi)) out 0) (.exit 2) (rkS r t (t, (⟨x.2.bs, x.2.sure⟩ : Fi)) out k)) : Contract Tryz.prog 37 [.ptr 0 0 0 0, .val (.string s), .val (.string t)] [r.box 1, r.arr] (I 0) [some ((⟨r.room, r.fuse, insF out k (t, (⟨x.2.bs, x.2.sure⟩ : Fi))⟩ : Rv).went.box 2), some r.arr, some (⟨r.room, r.fuse, insF out k (t, (⟨x.2.bs, x.2.sure⟩ : Fi))⟩ : Rv).went.arr] := by
  exact Contract.cast (by
    first
      | rfl) (by
    first
      | rfl) (cRRenA_0 r s t x j k i out hf hfu ht hF hx hj hl hk hL hK )

end Go.Proofs.YtinfjnnffmlpmaaGreatDoor

/- the reference's device: Crash; lists of files that are one. -/
namespace Go.Proofs.YtinfjnnffmlpmaaGreatDoor
open E
set_option maxRecDepth 100000
set_option linter.unusedVariables false
set_option linter.unusedSimpArgs false

def rcS (r : Rv) (ps : List Int) (i : Nat) : SL := ⟨[(0, .ptr 0 0 0 0), (1, .sl 1 (ps.map iR)), (4, I i)], [(0, r.box 1), (1, r.arr)], [0, 1, 0, 1]⟩
def sfS (A : Fs) (i : Nat) : SL := ⟨[(0, .sl 3 (A.map fR)), (1, .sl 3 (A.map fR)), (5, I i)], [], []⟩
noncomputable def sfB : Code := codeAt Tryz.prog 15 [true, true, false, true, false, false]

theorem rcA {x : ByteArray × Fi} (h0 : 0 ≤ x.2.sure) (h1 : x.2.sure ≤ x.2.bs.length) (hb : x.2.bs.length ≤ 1000000000) : IntKind.i64.wrap (Int.ofNat (x.2.bs.map bR).length + -x.2.sure) = Int.ofNat x.2.bs.length + -x.2.sure := by
  rw [List.length_map]; exact i64_small (by simp only [Int.ofNat_eq_natCast]; omega)
theorem rcM {x : ByteArray × Fi} {m c : Int} (hm : x.2.sure + c = m) (h0 : 0 ≤ m) (h1 : m ≤ x.2.bs.length) (hb : x.2.bs.length ≤ 1000000000) : IntKind.i64.wrap (x.2.sure + c) = m := by rw [hm]; exact i64_small (by omega)
theorem rcL {x : ByteArray × Fi} {m : Int} (h1 : m ≤ x.2.bs.length) : m ≤ Int.ofNat (x.2.bs.map bR).length := by rw [List.length_map]; exact h1
theorem rcT {x : ByteArray × Fi} {m : Int} : List.take m.toNat (x.2.bs.map bR) = (x.2.bs.take m.toNat).map bR := (List.map_take ..).symm
theorem sameB (l : List UInt8) : (!(ByteArray.toList ⟨l.toArray⟩ == ByteArray.toList ⟨l.toArray⟩)) = false := by simp
theorem sameN (b : ByteArray) : (!(ByteArray.toList b == ByteArray.toList b)) = false := by simp
theorem sfG_0 (A : Fs) (x : ByteArray × Fi) (i : Nat) (hx : A[i]? = some x) (hi : i < A.length) (hl : A.length ≤ 1000000) : CodeC Tryz.prog 0 56 sfB (sfS A i) (Ex.normal) ({ env := [((0 : Nat), V.sl (3 : Nat) (List.map fR A)), ((1 : Nat), V.sl (3 : Nat) (List.map fR A)), ((5 : Nat), I (Int.ofNat (i + (1 : Nat))))], st := [], ids := [] }) :=
  runP hmix [.reg 4 [(3, [], some true)], .reg 6 [(4, [.row (fR x)], none), (9, [.row (fR x)], none), (10, [], some false), (16, [.row (fR x)], none), (17, [.str ⟨x.2.bs.toArray⟩], none), (22, [.row (fR x)], none), (23, [.str ⟨x.2.bs.toArray⟩], none), (24, [], some false), (31, [.row (fR x)], none), (36, [.row (fR x)], none), (37, [], some false)], .reg 5 [(1, [.be (I ((i + 1 : Nat) : Int))], none)]] ⟨[0, 1, 5], [], []⟩ [
      decide (Int.ofNat i < Int.ofNat (List.length (List.map fR A))) = true,
      (0 : Int) ≤ Int.ofNat i,
      Int.ofNat i < Int.ofNat (List.length (List.map fR A)),
      (List.map fR A)[i]? = some (fR x),
      (0 : Int) ≤ Int.ofNat i,
      Int.ofNat i < Int.ofNat (List.length (List.map fR A)),
      (List.map fR A)[i]? = some (fR x),
      (!ByteArray.toList (Prod.fst x) == ByteArray.toList (Prod.fst x)) = false,
      (0 : Int) ≤ Int.ofNat i,
      Int.ofNat i < Int.ofNat (List.length (List.map fR A)),
      (List.map fR A)[i]? = some (fR x),
      List.map bR (Fi.bs (Prod.snd x)) = strRows { data := { toList := Fi.bs (Prod.snd x) } },
      (0 : Int) ≤ Int.ofNat i,
      Int.ofNat i < Int.ofNat (List.length (List.map fR A)),
      (List.map fR A)[i]? = some (fR x),
      List.map bR (Fi.bs (Prod.snd x)) = strRows { data := { toList := Fi.bs (Prod.snd x) } },
      (!ByteArray.toList { data := { toList := Fi.bs (Prod.snd x) } } == ByteArray.toList { data := { toList := Fi.bs (Prod.snd x) } }) = false,
      (0 : Int) ≤ Int.ofNat i,
      Int.ofNat i < Int.ofNat (List.length (List.map fR A)),
      (List.map fR A)[i]? = some (fR x),
      (0 : Int) ≤ Int.ofNat i,
      Int.ofNat i < Int.ofNat (List.length (List.map fR A)),
      (List.map fR A)[i]? = some (fR x),
      (Fi.sure (Prod.snd x) != Fi.sure (Prod.snd x)) = false,
      IntKind.wrap IntKind.i64 (Int.ofNat (i + (1 : Nat))) = Int.ofNat (i + (1 : Nat))] (by kernel_rfl)
    (by
      simp only [allP]
      and_intros <;> first
        | exact sameB _
        | exact strRows_bR _
        | exact i64_small (by simp; omega)
        | (simp [hx]; done)
        | (simp; omega))

theorem sfG (A : Fs) (x : ByteArray × Fi) (i : Nat) (hx : A[i]? = some x) (hi : i < A.length) (hl : A.length ≤ 1000000)  : CodeC Tryz.prog 0 56 sfB (sfS A i) .normal (sfS A (i + 1)) := by
  exact CodeC.cast (by
    first
      | rfl) (sfG_0 A x i hx hi hl )

theorem sfE_0 (A : Fs) (i : Nat) (h : A.length ≤ i) : CodeC Tryz.prog 0 56 sfB (sfS A i) (Ex.exit (0 : Nat)) ({ env := [((0 : Nat), V.sl (3 : Nat) (List.map fR A)), ((1 : Nat), V.sl (3 : Nat) (List.map fR A)), ((5 : Nat), I (Int.ofNat i))], st := [], ids := [] }) :=
  runP hmix [.reg 4 [(3, [], some false)]] ⟨[0, 1, 5], [], []⟩ [
      decide (Int.ofNat i < Int.ofNat (List.length (List.map fR A))) = false] (by kernel_rfl)
    (by
      simp only [allP]
      and_intros <;> first
        | (simp; omega))

theorem sfE (A : Fs) (i : Nat) (h : A.length ≤ i)  : CodeC Tryz.prog 0 56 sfB (sfS A i) (.exit 0) (sfS A i) := by
  exact CodeC.cast (by
    first
      | rfl) (sfE_0 A i h )

theorem cSameA_0 (A : Fs) (i : Nat) (hL : LoopC Tryz.prog 0 56 sfB (sfS A 0) (.exit 0) (sfS A i)) : Contract Tryz.prog 15 [.sl 3 (A.map fR), .sl 3 (A.map fR)] [] (Bo true) ([]) :=
  vcP hmix [.reg 1 [(4, [], some false)], .cut ⟨[0, 1, 5], [], []⟩ (.exit 0) (sfS A i)] [] [
      (Int.ofNat (List.length (List.map fR A)) != Int.ofNat (List.length (List.map fR A))) = false,
      LoopC Tryz.prog (0 : Nat) (56 : Nat) sfB { env := [((0 : Nat), V.sl (3 : Nat) (List.map fR A)), ((1 : Nat), V.sl (3 : Nat) (List.map fR A)), ((5 : Nat), I (0 : Int))], st := [], ids := [] } (Ex.exit (0 : Nat)) { env := [((0 : Nat), V.sl (3 : Nat) (List.map fR A)), ((1 : Nat), V.sl (3 : Nat) (List.map fR A)), ((5 : Nat), I (Int.ofNat i))], st := [], ids := [] }] (by kernel_rfl)
    (by
      simp only [allP]
      and_intros <;> first
        | exact hL
        | (simp; done))

theorem cSameA (A : Fs) (i : Nat) (hL : LoopC Tryz.prog 0 56 sfB (sfS A 0) (.exit 0) (sfS A i)) : Contract Tryz.prog 15 [.sl 3 (A.map fR), .sl 3 (A.map fR)] [] (Bo true) [] := by
  exact Contract.cast (by
    first
      | rfl) (by
    first
      | rfl) (cSameA_0 A i hL )

theorem cSame (A : Fs) (hl : A.length ≤ 1000000) : Contract Tryz.prog 15 [.sl 3 (A.map fR), .sl 3 (A.map fR)] [] (Bo true) [] :=
  cSameA A A.length (LoopC.pass A (fun i => sfS A i) (by simp) (fun i x hx hi => sfG A x i hx hi hl) (sfE A _ (Nat.le_refl _)))
end Go.Proofs.YtinfjnnffmlpmaaGreatDoor

/- a device and the reference's: they do the same. -/
namespace Go.Proofs.YtinfjnnffmlpmaaGreatDoor
open E
set_option maxRecDepth 100000
set_option linter.unusedVariables false
set_option linter.unusedSimpArgs false

def Sd (F : Fs) : Prop := (F.map (·.1)).Pairwise fun a b => ltS a b = true
structure Rel (d : Dv) (r : Rv) : Prop where
  room : r.room = d.room
  fuse : r.fuse = d.fuse
  perm : r.F.Perm d.fs
  sd : Sd r.F

theorem Sd.uniq {F : Fs} (h : Sd F) : Uniq F := List.Pairwise.imp (fun {a b} h => by intro e; subst e; rw [ltS_irrefl] at h; cases h) h
theorem uniq_mem {F : Fs} (h : Uniq F) {s : ByteArray} {f : Fi} : look F s = some f ↔ (s, f) ∈ F := ⟨look_mem, fun hm => h.mem hm⟩
theorem perm_look {F fs : Fs} (h : F.Perm fs) (hu : Uniq fs) (s : ByteArray) : look F s = look fs s := by
  have hF : Uniq F := List.Perm.nodup (List.Perm.map (fun p : ByteArray × Fi => p.1) h).symm hu
  cases h1 : look fs s with
  | some f => exact (uniq_mem hF).2 (h.mem_iff.2 ((uniq_mem hu).1 h1))
  | none =>
    cases h2 : look F s with
    | none => rfl
    | some f =>
      have := (uniq_mem hu).2 (h.mem_iff.1 ((uniq_mem hF).1 h2))
      rw [h1] at this; cases this
theorem perm_tot {F fs : Fs} (h : F.Perm fs) : tot F = tot fs := by
  induction h with
  | nil => rfl
  | cons x _ ih => simp only [tot, ih]
  | swap x y l => simp only [tot]; omega
  | trans _ _ h1 h2 => rw [h1, h2]
theorem put_perm {fs : Fs} (hu : Uniq fs) (s : ByteArray) (f : Fi) : (put fs s f).Perm ((s, f) :: del fs s) := by
  induction fs with
  | nil => exact List.Perm.refl _
  | cons p fs ih =>
    unfold put
    by_cases h : s = p.1
    · have e : del (p :: fs) s = fs := by
        unfold del
        rw [List.filter_cons_of_neg (by simp [h])]
        exact del_none (by rw [h]; exact hu.head)
      rw [if_pos (by simp [h]), e]
    · have e : del (p :: fs) s = p :: del fs s := by unfold del; rw [List.filter_cons_of_pos (by simpa using h)]
      rw [if_neg (by simpa using h), e]
      exact ((ih hu.tail).cons p).trans (List.Perm.swap ..)
theorem del_permF {F fs : Fs} (h : F.Perm fs) (s : ByteArray) : (del F s).Perm (del fs s) := h.filter _
theorem put_permF {F fs : Fs} (h : F.Perm fs) (hu : Uniq fs) (s : ByteArray) (f : Fi) : (put F s f).Perm (put fs s f) := by
  have hF : Uniq F := List.Perm.nodup (List.Perm.map (fun p : ByteArray × Fi => p.1) h).symm hu
  exact (put_perm hF s f).trans (((del_permF h s).cons _).trans (put_perm hu s f).symm)
theorem Sd.del {F : Fs} (h : Sd F) (s : ByteArray) : Sd (del F s) := List.Pairwise.sublist ((List.filter_sublist (l := F)).map _) h
theorem keysF {F : Fs} {i : Nat} {s : ByteArray} {f g : Fi} (h : F[i]? = some (s, f)) : (F.set i (s, g)).map (·.1) = F.map (·.1) := by
  rw [List.map_set]
  exact set_back (by rw [List.getElem?_map, h]; rfl)
theorem Sd.put {F : Fs} (h : Sd F) {s : ByteArray} {f : Fi} (g : Fi) (hl : look F s = some f) : Sd (put F s g) := by
  obtain ⟨i, h1, h2⟩ := look_fat hl
  rw [put_at h1]
  unfold Sd
  rw [keysF h2]
  exact h
theorem Sd.eq {F fs : Fs} (h : Sd F) (hp : F.Perm fs) (hu : Uniq fs) : F = sortF fs := by
  refine List.Perm.eq_of_pairwise (le := fun p q => leN p.1 q.1 = true) (fun a b ha hb h1 h2 => ?_) ?_ ?_ (hp.trans (sortF_perm fs).symm)
  · have hk : a.1 = b.1 := by
      simp only [leN, decide_eq_true_eq] at h1 h2
      have := List.le_antisymm h1 h2
      exact toList_inj (by rw [ByteArray.toList_eq, ByteArray.toList_eq]; exact this)
    have h3 := hu.mem (hp.mem_iff.1 ha)
    have h4 := hu.mem (sortF_mem.1 hb)
    rw [hk, h4] at h3
    cases a; cases b
    simp only [Option.some.injEq] at h3 hk
    rw [hk, h3]
  · have := List.pairwise_map.1 h
    refine this.imp fun {a b} h => ?_
    rw [ltS_iff, ByteArray.toList_eq, ByteArray.toList_eq] at h
    simp only [leN, decide_eq_true_eq]
    exact List.le_of_lt h
  · exact List.pairwise_mergeSort (le := fun p q : ByteArray × Fi => leN p.1 q.1) (fun a b c h k => leL_trans a.1.data.toList b.1.data.toList c.1.data.toList h k) (fun a b => leL_total a.1.data.toList b.1.data.toList) fs

/-! ### Put in -/
def insI (F : Fs) (t : ByteArray) : Nat := (F.takeWhile fun p => ltS p.1 t).length
theorem insI_le (F : Fs) (t : ByteArray) : insI F t ≤ F.length := List.Sublist.length_le (List.takeWhile_sublist _)
theorem insI_lt {F : Fs} {t : ByteArray} {i : Nat} {x : ByteArray × Fi} (h : F[i]? = some x) (hi : i < insI F t) : ltS x.1 t = true := by
  have h1 : (F.takeWhile fun p => ltS p.1 t)[i]? = some x := by
    have : (F.takeWhile (fun p => ltS p.1 t) ++ F.dropWhile fun p => ltS p.1 t)[i]? = some x := by rw [List.takeWhile_append_dropWhile]; exact h
    rwa [List.getElem?_append_left hi] at this
  have := List.all_eq_true.1 (List.all_takeWhile (p := fun p : ByteArray × Fi => ltS p.1 t) (l := F)) x (List.mem_of_getElem? h1)
  simpa using this
theorem insI_at {F : Fs} {t : ByteArray} {x : ByteArray × Fi} (h : F[insI F t]? = some x) : ltS x.1 t = false := by
  have h1 : (F.dropWhile fun p => ltS p.1 t)[0]? = some x := by
    have : (F.takeWhile (fun p => ltS p.1 t) ++ F.dropWhile fun p => ltS p.1 t)[insI F t]? = some x := by rw [List.takeWhile_append_dropWhile]; exact h
    rw [show insI F t = (F.takeWhile fun p => ltS p.1 t).length from rfl, List.getElem?_append_right (Nat.le_refl _), Nat.sub_self] at this
    exact this
  cases hd : (F.dropWhile fun p => ltS p.1 t) with
  | nil => rw [hd] at h1; simp at h1
  | cons y l =>
    rw [hd] at h1
    simp only [List.getElem?_cons_zero, Option.some.injEq] at h1
    subst h1
    have := List.head_dropWhile_not (fun p : ByteArray × Fi => ltS p.1 t) (l := F) (by rw [hd]; simp)
    simpa [hd] using this
theorem ins_perm {F : Fs} {k : Nat} {p : ByteArray × Fi} : (insF F k p).Perm (p :: F) := by
  unfold insF
  have : (F.take k ++ [p] ++ F.drop k).Perm (p :: (F.take k ++ F.drop k)) := by
    rw [List.append_assoc]
    exact List.perm_middle
  rwa [List.take_append_drop] at this
theorem Sd.ins {F : Fs} (h : Sd F) {t : ByteArray} (f : Fi) (hl : look F t = none) : Sd (insF F (insI F t) (t, f)) := by
  unfold Sd insF
  rw [List.map_append, List.map_append, List.append_assoc, List.pairwise_append]
  have hsub1 : ((F.take (insI F t)).map (·.1)).Sublist (F.map (·.1)) := (List.take_sublist _ _).map _
  have hsub2 : ((F.drop (insI F t)).map (·.1)).Sublist (F.map (·.1)) := (List.drop_sublist _ _).map _
  have hlo : ∀ a ∈ (F.take (insI F t)).map (·.1), ltS a t = true := by
    intro a ha
    obtain ⟨p, hp, rfl⟩ := List.mem_map.1 ha
    obtain ⟨i, hi⟩ := List.getElem?_of_mem hp
    have hil := (List.getElem?_eq_some_iff.1 hi).1
    simp only [List.length_take] at hil
    rw [List.getElem?_take, if_pos (by omega)] at hi
    exact insI_lt hi (by omega)
  have hhi : ∀ a ∈ (F.drop (insI F t)).map (·.1), ltS t a = true := by
    intro a ha
    obtain ⟨p, hp, rfl⟩ := List.mem_map.1 ha
    have hne : p.1 ≠ t := by
      intro e
      have := h.uniq.mem (List.mem_of_mem_drop hp)
      rw [e, hl] at this; cases this
    have hge : ltS p.1 t = false := by
      cases hd : F.drop (insI F t) with
      | nil => rw [hd] at hp; simp at hp
      | cons q l =>
        have hq : F[insI F t]? = some q := by
          have := congrArg (fun l => l[0]?) hd
          simpa [List.getElem?_drop] using this
        have h1 := insI_at hq
        rw [hd] at hp
        rcases List.mem_cons.1 hp with rfl | hp
        · exact h1
        · have hpw : ((F.drop (insI F t)).map (·.1)).Pairwise fun a b => ltS a b = true := h.sublist hsub2
          rw [hd, List.map_cons, List.pairwise_cons] at hpw
          have h2 := hpw.1 p.1 (List.mem_map_of_mem hp)
          cases h3 : ltS p.1 t with
          | false => rfl
          | true => rw [ltS_trans h2 h3] at h1; cases h1
    cases h4 : ltS t p.1 with
    | true => rfl
    | false => exact absurd (ltS_total hge h4) hne
  refine ⟨h.sublist hsub1, ?_, fun a ha b hb => ?_⟩
  · simp only [List.map_cons, List.map_nil, List.singleton_append, List.pairwise_cons]
    exact ⟨hhi, h.sublist hsub2⟩
  · simp only [List.map_cons, List.map_nil, List.singleton_append, List.mem_cons] at hb
    rcases hb with rfl | hb
    · exact hlo a ha
    · exact ltS_trans (hlo a ha) (hhi b hb)

/-! ### The loops -/
theorem apLoop (r : Rv) (s : ByteArray) (b : List UInt8) (hl : r.F.length ≤ 1000000000) : ∀ (m i : Nat), i + m = insI r.F s → LoopC Tryz.prog 2 95 apB (apS r s b i) (.exit 1) (apS r s b (insI r.F s))
  | 0, i, h => by
    have e : i = insI r.F s := by omega
    rw [e]
    have hle := insI_le r.F s
    by_cases hi : insI r.F s < r.F.length
    · exact LoopC.last (apP r s b _ _ (List.getElem?_eq_getElem hi) hi hl (insI_at (List.getElem?_eq_getElem hi))) (by simp)
    · exact LoopC.last (apE r s b _ (by omega)) (by simp)
  | m + 1, i, h => by
    have hle := insI_le r.F s
    have hi : i < r.F.length := by omega
    exact LoopC.next (apG r s b _ i (List.getElem?_eq_getElem hi) hi hl (insI_lt (List.getElem?_eq_getElem hi) (by omega))) (apLoop r s b hl m (i + 1) (by omega))
theorem rkLoop (r : Rv) (t : ByteArray) (p : ByteArray × Fi) (F : Fs) (hl : F.length ≤ 1000000) : ∀ (m i : Nat), i + m = insI F t → LoopC Tryz.prog 2 98 rkB (rkS r t p F i) (.exit 2) (rkS r t p F (insI F t))
  | 0, i, h => by
    have e : i = insI F t := by omega
    rw [e]
    have hle := insI_le F t
    by_cases hi : insI F t < F.length
    · exact LoopC.last (rkP r t p F _ _ (List.getElem?_eq_getElem hi) hi hl (insI_at (List.getElem?_eq_getElem hi))) (by simp)
    · exact LoopC.last (rkE r t p F _ (by omega)) (by simp)
  | m + 1, i, h => by
    have hle := insI_le F t
    have hi : i < F.length := by omega
    exact LoopC.next (rkG r t p F _ i (List.getElem?_eq_getElem hi) hi hl (insI_lt (List.getElem?_eq_getElem hi) (by omega))) (rkLoop r t p F hl m (i + 1) (by omega))
def rnL (t : ByteArray) (j : Nat) : Fs → Nat → Fs
  | [], _ => []
  | p :: l, k => if k = j ∨ p.1 = t then rnL t j l (k + 1) else p :: rnL t j l (k + 1)
theorem rnL_del {s t : ByteArray} {j : Nat} : ∀ (l : Fs) (k : Nat), (∀ i p, l[i]? = some p → (k + i = j ↔ p.1 = s)) → rnL t j l k = del (del l t) s
  | [], _, _ => rfl
  | p :: l, k, h => by
    have h0 := h 0 p rfl
    have ih := rnL_del (t := t) l (k + 1) (fun i q hq => by have := h (i + 1) q (by simpa using hq); rwa [show k + (i + 1) = k + 1 + i by omega] at this)
    rw [rnL, ih]
    have e1 : del (p :: l) t = if p.1 = t then del l t else p :: del l t := by
      unfold del
      by_cases hp : p.1 = t
      · rw [if_pos hp, List.filter_cons_of_neg (by simp [hp])]
      · rw [if_neg hp, List.filter_cons_of_pos (by simpa using fun e : t = p.1 => hp e.symm)]
    rw [e1]
    by_cases hp : p.1 = t
    · rw [if_pos hp, if_pos (.inr hp)]
    · rw [if_neg hp]
      have e2 : del (p :: del l t) s = if p.1 = s then del (del l t) s else p :: del (del l t) s := by
        unfold del
        by_cases hq : p.1 = s
        · rw [if_pos hq, List.filter_cons_of_neg (by simp [hq])]
        · rw [if_neg hq, List.filter_cons_of_pos (by simpa using fun e : s = p.1 => hq e.symm)]
      rw [e2]
      by_cases hq : p.1 = s
      · rw [if_pos hq, if_pos (.inl (by have := h0.2 hq; omega))]
      · rw [if_neg hq, if_neg (by
          rintro (h1 | h1)
          · exact hq (h0.1 (by omega))
          · exact hp h1)]
theorem rlLoop (r : Rv) (t : ByteArray) (j : Nat) (p : ByteArray × Fi) (hl : r.F.length ≤ 1000000) : ∀ (l : Fs) (i : Nat) (out : Fs), r.F.drop i = l → i ≤ r.F.length → out.length ≤ i →
    LoopC Tryz.prog 2 98 rlB (rlS r t j p out i) (.exit 0) (rlS r t j p (out ++ rnL t j l i) r.F.length)
  | [], i, out, hd, hi, ho => by
    have : i = r.F.length := by
      have := congrArg List.length hd
      simp only [List.length_drop, List.length_nil] at this; omega
    subst this
    rw [rnL, List.append_nil]
    exact LoopC.last (rlE r t p out j _ (Nat.le_refl _)) (by simp)
  | x :: l, i, out, hd, hi, ho => by
    have hlt : i < r.F.length := by
      have := congrArg List.length hd
      simp only [List.length_drop, List.length_cons] at this; omega
    have hx : r.F[i]? = some x := by
      have := congrArg (fun l => l[0]?) hd
      simpa [List.getElem?_drop] using this
    have hd2 : r.F.drop (i + 1) = l := by
      have := congrArg List.tail hd
      simpa using this
    rw [rnL]
    by_cases hij : i = j
    · rw [if_pos (.inl hij)]
      exact LoopC.next (rlQ r t p out x j i hx hlt hl (by omega) hij) (rlLoop r t j p hl l (i + 1) out hd2 (by omega) (by omega))
    by_cases hk : x.1 = t
    · rw [if_pos (.inr hk)]
      exact LoopC.next (rlP r t p out x j i hx hlt hl (by omega) hij (by simp [hk])) (rlLoop r t j p hl l (i + 1) out hd2 (by omega) (by omega))
    · rw [if_neg (by rintro (h | h); exact hij h; exact hk h)]
      have hb : (!(ByteArray.toList x.1 == ByteArray.toList t)) = true := by
        have : (ByteArray.toList x.1 == ByteArray.toList t) = false := by rw [beq_eq_false_iff_ne]; exact fun e => hk (toList_inj e)
        rw [this]; rfl
      have ih := rlLoop r t j p hl l (i + 1) (out ++ [x]) hd2 (by omega) (by simp; omega)
      rw [List.append_assoc] at ih
      exact LoopC.next (rlG r t p out x j i hx hlt hl (by omega) hij hb) ih

end Go.Proofs.YtinfjnnffmlpmaaGreatDoor

/- a device and the reference's: each call. -/
namespace Go.Proofs.YtinfjnnffmlpmaaGreatDoor
open E
set_option maxRecDepth 100000
set_option linter.unusedVariables false
set_option linter.unusedSimpArgs false

theorem renR {f : FuncId} {args : List V} {r r' : Rv} (n : Int) (h : Contract Tryz.prog f args [r.box 1, r.arr] (I n) [some (r'.box 1), some r'.arr]) :
    Contract Tryz.prog f args [r.box 1, r.arr] (I n) [some (r'.box 2), none, some r'.arr] := by
  refine Contract.renArr (cells := [I r'.room, I r'.fuse, .own 1]) (cells' := [I r'.room, I r'.fuse, .own 2]) rfl h (fun _ _ h => by simpa only [I, V.rep] using h) (fun {w G τ τ' xs} h0 h2 h => ?_)
  revert h
  match xs with
  | [a, b, c] =>
    simp only [repL, V.rep, V.repI, I, h2]
    exact id
  | [] | [_] | [_, _] => simp [repL]
  | _ :: _ :: _ :: _ :: _ => simp [repL]
theorem Rel.went {d : Dv} {r : Rv} (h : Rel d r) : Rel d.went r.went := ⟨h.room, by simp only [Rv.went, Dv.went, h.fuse], h.perm, h.sd⟩
theorem Rel.look {d : Dv} {r : Rv} (h : Rel d r) (hk : Ok d) (s : ByteArray) : look r.F s = look d.fs s := perm_look h.perm hk.uniq s
theorem Rel.tot {d : Dv} {r : Rv} (h : Rel d r) : tot r.F = tot d.fs := perm_tot h.perm
theorem Rel.len {d : Dv} {r : Rv} (h : Rel d r) : r.F.length = d.fs.length := h.perm.length_eq

theorem findA {d : Dv} {r : Rv} (h : Rel d r) (hk : Ok d) (hl : d.fs.length ≤ 1000000) {s : ByteArray} {f : Fi} (hf : look d.fs s = some f) : ∃ i, fat r.F s = some i ∧ r.F[i]? = some (s, f) ∧ i < r.F.length ∧
    Contract Tryz.prog 29 [.ptr 0 0 0 0, .val (.string s)] [r.box 1, r.arr] (I i) [some (r.box 1), some r.arr] := by
  have h1 := h.look hk s
  rw [hf] at h1
  obtain ⟨i, h2, h3⟩ := look_fat h1
  exact ⟨i, h2, h3, (List.getElem?_eq_some_iff.1 h3).1, cRFindA r s i h2 (by rw [h.len]; omega)⟩
theorem findB {d : Dv} {r : Rv} (h : Rel d r) (hk : Ok d) (hl : d.fs.length ≤ 1000000) {s : ByteArray} (hf : look d.fs s = none) :
    Contract Tryz.prog 29 [.ptr 0 0 0 0, .val (.string s)] [r.box 1, r.arr] (I (-1)) [some (r.box 1), some r.arr] := by
  have h1 := h.look hk s
  rw [hf] at h1
  exact cRFindB r s (fat_none.2 h1) (by rw [h.len]; omega)

theorem relAppend {d : Dv} {r : Rv} (s : ByteArray) (b : List UInt8) (hk : Ok d) (h : Rel d r) (hb : tot d.fs + b.length ≤ 1000000000) (hl : d.fs.length ≤ 999999) :
    ∃ r', Contract Tryz.prog 9 [.ptr 0 0 0 0, .val (.string s), .sl 1 (b.map bR)] [r.box 1, r.arr] (I (d.append s b).2) [some (r'.box 2), none, some r'.arr] ∧ Rel (d.append s b).1 r' := by
  have hu := hk.used
  have hr := hk.room
  have ht := hk.tot
  have hU := cRUsed r (by rw [h.len]; omega) (by rw [h.tot]; omega)
  rw [h.tot] at hU
  unfold Dv.append
  split
  · rename_i h0; exact ⟨r, renR 5 (cRApp5 r s b (by rw [h.fuse]; exact h0)), h⟩
  rename_i h0
  split
  · rename_i h1; exact ⟨r, renR 1 (cRApp1 r s b (by rw [h.fuse]; exact h0) (nlB h1)), h⟩
  rename_i h1
  split
  · rename_i h2; exact ⟨r, renR 3 (cRApp3 r s b _ (by rw [h.fuse]; exact h0) (nlN h1) hU (by omega) (by omega) (by rw [h.room]; omega) (by rw [h.room]; omega) (by rw [h.room]; omega)), h⟩
  rename_i h2
  cases hf : look d.fs s with
  | none =>
    have hfr : look r.F s = none := by rw [h.look hk]; exact hf
    have c := Contract.drop1 (cRAppB r s b _ (insI r.F s) (by rw [h.fuse]; exact h0) (nlN h1) hU (by omega) (by omega) (by rw [h.room]; omega) (by rw [h.room]; omega) (by rw [h.room]; omega) (by rw [h.fuse]; exact hk.fuse) (by omega) (findB h hk (by omega) hf)
      (apLoop r s b (by rw [h.len]; omega) _ 0 (Nat.zero_add _)) (insI_le _ _) (by rw [h.len]; omega))
    refine ⟨_, c, Rel.went ⟨h.room, h.fuse, ?_, h.sd.ins _ hfr⟩⟩
    simp only [Option.map_none, Option.getD_none, List.nil_append]
    rw [put_new hf]
    exact ins_perm.trans ((h.perm.cons _).trans (List.perm_append_singleton _ _).symm)
  | some f =>
    obtain ⟨i, k1, k2, k3, k4⟩ := findA h hk (by omega) hf
    have hlk := tot_look hf
    have c := cRAppA r s b _ (s, f) i (by rw [h.fuse]; exact h0) (nlN h1) hU (by omega) (by omega) (by rw [h.room]; omega) (by rw [h.room]; omega) (by rw [h.room]; omega) (by rw [h.fuse]; exact hk.fuse) (by omega) k4 k2 k3 rfl (by simp only; omega)
    refine ⟨_, renR 0 c, Rel.went ⟨h.room, h.fuse, ?_, ?_⟩⟩
    · simp only [Option.map_some, Option.getD_some]
      rw [← put_at k1]
      exact put_permF h.perm hk.uniq _ _
    · simp only
      rw [← put_at k1]
      exact h.sd.put _ (by rw [h.look hk]; exact hf)

theorem relSync {d : Dv} {r : Rv} (s : ByteArray) (hk : Ok d) (h : Rel d r) (hl : d.fs.length ≤ 999999) :
    ∃ r', Contract Tryz.prog 36 [.ptr 0 0 0 0, .val (.string s)] [r.box 1, r.arr] (I (d.sync s).2) [some (r'.box 1), some r'.arr] ∧ Rel (d.sync s).1 r' := by
  unfold Dv.sync
  split
  · rename_i h0; exact ⟨r, cRSyncC r s (by rw [h.fuse]; exact h0), h⟩
  rename_i h0
  cases hf : look d.fs s with
  | none => exact ⟨r, cRSyncB r s (by rw [h.fuse]; exact h0) (findB h hk (by omega) hf), h⟩
  | some f =>
    obtain ⟨i, k1, k2, k3, k4⟩ := findA h hk (by omega) hf
    refine ⟨_, cRSyncA r s (s, f) i (by rw [h.fuse]; exact h0) (by rw [h.fuse]; exact hk.fuse) k4 k2 k3 rfl, Rel.went ⟨h.room, h.fuse, ?_, ?_⟩⟩
    · simp only
      rw [← put_at k1]
      exact put_permF h.perm hk.uniq _ _
    · simp only
      rw [← put_at k1]
      exact h.sd.put _ (by rw [h.look hk]; exact hf)

theorem relDelete {d : Dv} {r : Rv} (s : ByteArray) (hk : Ok d) (h : Rel d r) (hl : d.fs.length ≤ 999999) :
    ∃ r', Contract Tryz.prog 35 [.ptr 0 0 0 0, .val (.string s)] [r.box 1, r.arr] (I (d.delete s).2) [some (r'.box 2), none, some r'.arr] ∧ Rel (d.delete s).1 r' := by
  unfold Dv.delete
  split
  · rename_i h0; exact ⟨r, renR 5 (cRDelC r s (by rw [h.fuse]; exact h0)), h⟩
  rename_i h0
  cases hf : look d.fs s with
  | none => exact ⟨r, renR 4 (cRDelB r s (by rw [h.fuse]; exact h0) (findB h hk (by omega) hf)), h⟩
  | some f =>
    obtain ⟨i, k1, k2, k3, k4⟩ := findA h hk (by omega) hf
    have c := Contract.drop1 (cRDelA r s i (by rw [h.fuse]; exact h0) (by rw [h.fuse]; exact hk.fuse) k4 k3 (by rw [h.len]; omega))
    have e : r.F.take i ++ r.F.drop (i + 1) = del r.F s := by rw [← del_at h.sd.uniq k1, List.eraseIdx_eq_take_drop_succ]
    rw [e] at c
    exact ⟨_, c, Rel.went ⟨h.room, h.fuse, del_permF h.perm s, h.sd.del s⟩⟩

theorem relRead {d : Dv} {r : Rv} (s : ByteArray) (hk : Ok d) (h : Rel d r) (hl : d.fs.length ≤ 999999) :
    Contract Tryz.prog 34 [.ptr 0 0 0 0, .val (.string s)] [r.box 1, r.arr] (.tup [.sl 1 ((((look d.fs s).map (·.bs)).getD []).map bR), Bo (look d.fs s).isSome]) [some (r.box 1), some r.arr] := by
  cases hf : look d.fs s with
  | none => exact cRReadB r s (findB h hk (by omega) hf)
  | some f =>
    obtain ⟨i, k1, k2, k3, k4⟩ := findA h hk (by omega) hf
    exact cRReadA r s (s, f) i k4 k2 k3 rfl

theorem relFuse {d : Dv} {r : Rv} (n : Int) (hn : n ≤ 9223372036854775807) (h : Rel d r) :
    Contract Tryz.prog 11 [.ptr 0 0 0 0, I n] [r.box 1, r.arr] (.tup []) [some ((⟨r.room, if (-1 : Int) > n then -1 else n, r.F⟩ : Rv).box 1), some (⟨r.room, if (-1 : Int) > n then -1 else n, r.F⟩ : Rv).arr] := by
  have e : capI n (-1) 9223372036854775807 = if (-1 : Int) > n then -1 else n := by
    unfold capI
    by_cases h1 : n < -1
    · rw [if_pos h1, show decide (n < -1) = true by simpa using h1]; rfl
    · rw [if_neg h1, show decide (n < -1) = false by simpa using h1, show decide (n > 9223372036854775807) = false by simp; omega]; rfl
  have := cRFuse r n
  rwa [e] at this

theorem relRename {d : Dv} {r : Rv} (s t : ByteArray) (hk : Ok d) (h : Rel d r) (hl : d.fs.length ≤ 999999) :
    ∃ r', Contract Tryz.prog 37 [.ptr 0 0 0 0, .val (.string s), .val (.string t)] [r.box 1, r.arr] (I (d.rename s t).2) [some (r'.box 2), none, some r'.arr] ∧ Rel (d.rename s t).1 r' := by
  unfold Dv.rename
  split
  · rename_i h0; exact ⟨r, renR 5 (cRRenC r s t (by rw [h.fuse]; exact h0)), h⟩
  rename_i h0
  cases hf : look d.fs s with
  | none => exact ⟨r, renR 4 (cRRenB r s t (by rw [h.fuse]; exact h0) (findB h hk (by omega) hf)), h⟩
  | some f =>
    obtain ⟨i, k1, k2, k3, k4⟩ := findA h hk (by omega) hf
    simp only
    split
    · rename_i h1; exact ⟨r, renR 1 (cRRenE r s t i (by rw [h.fuse]; exact h0) (nlB h1) k4), h⟩
    rename_i h1
    have hou := rnL_del (s := s) (t := t) (j := i) r.F 0 (fun k p hp => by
      rw [Nat.zero_add]
      constructor
      · intro e; subst e; rw [k2] at hp; cases hp; rfl
      · intro e
        have : r.F[k]? = some (s, p.2) := by rw [hp, ← e]
        exact (h.sd.uniq.idx k2 this).symm)
    have hle : (del (del r.F t) s).length ≤ r.F.length := Nat.le_trans (length_del _ _) (length_del _ _)
    have hlen := h.len
    have hlt : look (del (del r.F t) s) t = none := by rw [look_del, look_del]; simp
    have c := Contract.drop1 (cRRenA r s t (s, f) i (insI (del (del r.F t) s) t) r.F.length (del (del r.F t) s) (by rw [h.fuse]; exact h0) (by rw [h.fuse]; exact hk.fuse) (nlN h1) k4 k2 k3 (by omega) (insI_le _ _) (by
        have := rlLoop r t i (t, ⟨f.bs, f.sure⟩) (by omega) r.F 0 [] rfl (by omega) (by simp)
        rw [List.nil_append, hou] at this
        exact this)
      (rkLoop r t _ _ (by omega) _ 0 (Nat.zero_add _)))
    have hsd := (((h.sd.del t).del s).ins (t := t) f hlt)
    have hp1 : (insF (del (del r.F t) s) (insI (del (del r.F t) s) t) (t, f)).Perm (del (del d.fs t) s ++ [(t, f)]) :=
      ins_perm.trans (((del_permF (del_permF h.perm t) s).cons _).trans (List.perm_append_singleton _ _).symm)
    split
    · rename_i h2
      subst h2
      refine ⟨_, c, Rel.went ⟨h.room, h.fuse, ?_, hsd⟩⟩
      simp only
      have e : del (del d.fs s) s = del d.fs s := del_none (by rw [look_del]; simp)
      rw [e] at hp1
      refine hp1.trans ((List.perm_append_singleton _ _).trans ?_)
      have hq := put_perm hk.uniq s f
      obtain ⟨j, j1, j2⟩ := look_fat hf
      rw [put_at j1, set_back j2] at hq
      exact hq.symm
    · exact ⟨_, c, Rel.went ⟨h.room, h.fuse, hp1, hsd⟩⟩

end Go.Proofs.YtinfjnnffmlpmaaGreatDoor

/- the reference's Shelve does what Put does. -/
namespace Go.Proofs.YtinfjnnffmlpmaaGreatDoor
open E
set_option maxRecDepth 100000
set_option linter.unusedVariables false
set_option linter.unusedSimpArgs false

theorem svTd_0 (r r1 r2 r3 r4 : Rv) (nm t : ByteArray) (b bs : List UInt8) (e1 e2 e3 e4 : Int) (ht : nm ++ tmpS = t) (hz : nm.size ≤ 1000000) (h0 : Contract Tryz.prog 34 [.ptr 0 0 0 0, .val (.string t)] [r.box 1, r.arr] (.tup [.sl 1 (bs.map bR), Bo true]) [some (r.box 1), some r.arr]) (h1 : Contract Tryz.prog 35 [.ptr 0 0 0 0, .val (.string t)] [r.box 1, r.arr] (I e1) [some (r1.box 2), none, some r1.arr]) (n1 : e1 ≠ 0) : Contract Tryz.prog 13 [.ptr 0 0 0 0, .val (.string nm), .sl 1 (b.map bR)] [r.box 1, r.arr] (I e1) ([some (Obj.box [I (Rv.room r1), I (Rv.fuse r1), V.own (2 : Nat)]), none, some (Obj.arr (3 : Nat) (List.map fR (Rv.F r1)))]) :=
  vcP hmix [.reg 1 [(1, [.idx 0, .be (.val (.string t))], none)], .reg 2 [(2, [.call [0, 1] [] (.tup [.sl 1 (bs.map bR), Bo true]) [some (r.box 1), some r.arr]], none)], .reg 4 [(2, [.call [0, 1] [] (I e1) [some (r1.box 2), none, some r1.arr]], none)], .reg 5 [(1, [], some true)]] [803001] [
      ByteArray.size nm + (4 : Nat) ≤ (9223372036854775807 : Nat),
      { data := { toList := Array.toList (ByteArray.data nm) ++ [(46 : UInt8), (116 : UInt8), (109 : UInt8), (112 : UInt8)] } } = t,
      Contract Tryz.prog (34 : Nat) [V.ptr (0 : Nat) (0 : Nat) (0 : Nat) (0 : Nat), Sg t] [Obj.box [I (Rv.room r), I (Rv.fuse r), V.own (1 : Nat)], Obj.arr (3 : Nat) (List.map fR (Rv.F r))] (V.tup [V.sl (1 : Nat) (List.map bR bs), Bo true]) [some (Obj.box [I (Rv.room r), I (Rv.fuse r), V.own (1 : Nat)]), some (Obj.arr (3 : Nat) (List.map fR (Rv.F r)))],
      Contract Tryz.prog (35 : Nat) [V.ptr (0 : Nat) (0 : Nat) (0 : Nat) (0 : Nat), Sg t] [Obj.box [I (Rv.room r), I (Rv.fuse r), V.own (1 : Nat)], Obj.arr (3 : Nat) (List.map fR (Rv.F r))] (I e1) [some (Obj.box [I (Rv.room r1), I (Rv.fuse r1), V.own (2 : Nat)]), none, some (Obj.arr (3 : Nat) (List.map fR (Rv.F r1)))],
      (e1 != (0 : Int)) = true] (by kernel_rfl)
    (by
      simp only [allP]
      and_intros <;> first
        | omega
        | exact h0
        | exact h1
        | exact ht
        | (simp [n1]; done))

theorem svTd (r r1 r2 r3 r4 : Rv) (nm t : ByteArray) (b bs : List UInt8) (e1 e2 e3 e4 : Int) (ht : nm ++ tmpS = t) (hz : nm.size ≤ 1000000) (h0 : Contract Tryz.prog 34 [.ptr 0 0 0 0, .val (.string t)] [r.box 1, r.arr] (.tup [.sl 1 (bs.map bR), Bo true]) [some (r.box 1), some r.arr]) (h1 : Contract Tryz.prog 35 [.ptr 0 0 0 0, .val (.string t)] [r.box 1, r.arr] (I e1) [some (r1.box 2), none, some r1.arr]) (n1 : e1 ≠ 0) : Contract Tryz.prog 13 [.ptr 0 0 0 0, .val (.string nm), .sl 1 (b.map bR)] [r.box 1, r.arr] (I e1) [some (r1.box 2), none, some r1.arr] := by
  exact Contract.cast (by
    first
      | rfl) (by
    first
      | rfl) (svTd_0 r r1 r2 r3 r4 nm t b bs e1 e2 e3 e4 ht hz h0 h1 n1 )

theorem svTa_0 (r r1 r2 r3 r4 : Rv) (nm t : ByteArray) (b bs : List UInt8) (e1 e2 e3 e4 : Int) (ht : nm ++ tmpS = t) (hz : nm.size ≤ 1000000) (h0 : Contract Tryz.prog 34 [.ptr 0 0 0 0, .val (.string t)] [r.box 1, r.arr] (.tup [.sl 1 (bs.map bR), Bo true]) [some (r.box 1), some r.arr]) (h1 : Contract Tryz.prog 35 [.ptr 0 0 0 0, .val (.string t)] [r.box 1, r.arr] (I e1) [some (r1.box 2), none, some r1.arr]) (n1 : e1 = 0) (h2 : Contract Tryz.prog 9 [.ptr 0 0 0 0, .val (.string t), .sl 1 (b.map bR)] [r1.box 1, r1.arr] (I e2) [some (r2.box 2), none, some r2.arr]) (n2 : e2 ≠ 0) : Contract Tryz.prog 13 [.ptr 0 0 0 0, .val (.string nm), .sl 1 (b.map bR)] [r.box 1, r.arr] (I e2) ([some (Obj.box [I (Rv.room r2), I (Rv.fuse r2), V.own (2 : Nat)]), none, some (Obj.arr (3 : Nat) (List.map fR (Rv.F r2)))]) :=
  vcP hmix [.reg 1 [(1, [.idx 0, .be (.val (.string t))], none)], .reg 2 [(2, [.call [0, 1] [] (.tup [.sl 1 (bs.map bR), Bo true]) [some (r.box 1), some r.arr]], none)], .reg 4 [(2, [.call [0, 1] [] (I e1) [some (r1.box 2), none, some r1.arr]], none)], .reg 5 [(1, [], some false)], .reg 7 [(3, [.call [0, 803001] [] (I e2) [some (r2.box 2), none, some r2.arr]], none)], .reg 8 [(1, [], some true)]] [1404001] [
      ByteArray.size nm + (4 : Nat) ≤ (9223372036854775807 : Nat),
      { data := { toList := Array.toList (ByteArray.data nm) ++ [(46 : UInt8), (116 : UInt8), (109 : UInt8), (112 : UInt8)] } } = t,
      Contract Tryz.prog (34 : Nat) [V.ptr (0 : Nat) (0 : Nat) (0 : Nat) (0 : Nat), Sg t] [Obj.box [I (Rv.room r), I (Rv.fuse r), V.own (1 : Nat)], Obj.arr (3 : Nat) (List.map fR (Rv.F r))] (V.tup [V.sl (1 : Nat) (List.map bR bs), Bo true]) [some (Obj.box [I (Rv.room r), I (Rv.fuse r), V.own (1 : Nat)]), some (Obj.arr (3 : Nat) (List.map fR (Rv.F r)))],
      Contract Tryz.prog (35 : Nat) [V.ptr (0 : Nat) (0 : Nat) (0 : Nat) (0 : Nat), Sg t] [Obj.box [I (Rv.room r), I (Rv.fuse r), V.own (1 : Nat)], Obj.arr (3 : Nat) (List.map fR (Rv.F r))] (I e1) [some (Obj.box [I (Rv.room r1), I (Rv.fuse r1), V.own (2 : Nat)]), none, some (Obj.arr (3 : Nat) (List.map fR (Rv.F r1)))],
      (e1 != (0 : Int)) = false,
      Contract Tryz.prog (9 : Nat) [V.ptr (0 : Nat) (0 : Nat) (0 : Nat) (0 : Nat), Sg t, V.sl (1 : Nat) (List.map bR b)] [Obj.box [I (Rv.room r1), I (Rv.fuse r1), V.own (1 : Nat)], Obj.arr (3 : Nat) (List.map fR (Rv.F r1))] (I e2) [some (Obj.box [I (Rv.room r2), I (Rv.fuse r2), V.own (2 : Nat)]), none, some (Obj.arr (3 : Nat) (List.map fR (Rv.F r2)))],
      (e2 != (0 : Int)) = true] (by kernel_rfl)
    (by
      simp only [allP]
      and_intros <;> first
        | omega
        | exact h0
        | exact h1
        | exact h2
        | exact ht
        | (simp [n1]; done)
        | (simp [n2]; done))

theorem svTa (r r1 r2 r3 r4 : Rv) (nm t : ByteArray) (b bs : List UInt8) (e1 e2 e3 e4 : Int) (ht : nm ++ tmpS = t) (hz : nm.size ≤ 1000000) (h0 : Contract Tryz.prog 34 [.ptr 0 0 0 0, .val (.string t)] [r.box 1, r.arr] (.tup [.sl 1 (bs.map bR), Bo true]) [some (r.box 1), some r.arr]) (h1 : Contract Tryz.prog 35 [.ptr 0 0 0 0, .val (.string t)] [r.box 1, r.arr] (I e1) [some (r1.box 2), none, some r1.arr]) (n1 : e1 = 0) (h2 : Contract Tryz.prog 9 [.ptr 0 0 0 0, .val (.string t), .sl 1 (b.map bR)] [r1.box 1, r1.arr] (I e2) [some (r2.box 2), none, some r2.arr]) (n2 : e2 ≠ 0) : Contract Tryz.prog 13 [.ptr 0 0 0 0, .val (.string nm), .sl 1 (b.map bR)] [r.box 1, r.arr] (I e2) [some (r2.box 2), none, some r2.arr] := by
  exact Contract.cast (by
    first
      | rfl) (by
    first
      | rfl) (svTa_0 r r1 r2 r3 r4 nm t b bs e1 e2 e3 e4 ht hz h0 h1 n1 h2 n2 )

theorem svTs_0 (r r1 r2 r3 r4 : Rv) (nm t : ByteArray) (b bs : List UInt8) (e1 e2 e3 e4 : Int) (ht : nm ++ tmpS = t) (hz : nm.size ≤ 1000000) (h0 : Contract Tryz.prog 34 [.ptr 0 0 0 0, .val (.string t)] [r.box 1, r.arr] (.tup [.sl 1 (bs.map bR), Bo true]) [some (r.box 1), some r.arr]) (h1 : Contract Tryz.prog 35 [.ptr 0 0 0 0, .val (.string t)] [r.box 1, r.arr] (I e1) [some (r1.box 2), none, some r1.arr]) (n1 : e1 = 0) (h2 : Contract Tryz.prog 9 [.ptr 0 0 0 0, .val (.string t), .sl 1 (b.map bR)] [r1.box 1, r1.arr] (I e2) [some (r2.box 2), none, some r2.arr]) (n2 : e2 = 0) (h3 : Contract Tryz.prog 36 [.ptr 0 0 0 0, .val (.string t)] [r2.box 1, r2.arr] (I e3) [some (r3.box 1), some r3.arr]) (n3 : e3 ≠ 0) : Contract Tryz.prog 13 [.ptr 0 0 0 0, .val (.string nm), .sl 1 (b.map bR)] [r.box 1, r.arr] (I e3) ([some (Obj.box [I (Rv.room r3), I (Rv.fuse r3), V.own (2 : Nat)]), none, some (Obj.arr (3 : Nat) (List.map fR (Rv.F r3)))]) :=
  vcP hmix [.reg 1 [(1, [.idx 0, .be (.val (.string t))], none)], .reg 2 [(2, [.call [0, 1] [] (.tup [.sl 1 (bs.map bR), Bo true]) [some (r.box 1), some r.arr]], none)], .reg 4 [(2, [.call [0, 1] [] (I e1) [some (r1.box 2), none, some r1.arr]], none)], .reg 5 [(1, [], some false)], .reg 7 [(3, [.call [0, 803001] [] (I e2) [some (r2.box 2), none, some r2.arr]], none)], .reg 8 [(1, [], some false)], .reg 10 [(2, [.call [0, 1404001] [] (I e3) [some (r3.box 1), some r3.arr]], none)], .reg 11 [(1, [], some true)]] [1404001] [
      ByteArray.size nm + (4 : Nat) ≤ (9223372036854775807 : Nat),
      { data := { toList := Array.toList (ByteArray.data nm) ++ [(46 : UInt8), (116 : UInt8), (109 : UInt8), (112 : UInt8)] } } = t,
      Contract Tryz.prog (34 : Nat) [V.ptr (0 : Nat) (0 : Nat) (0 : Nat) (0 : Nat), Sg t] [Obj.box [I (Rv.room r), I (Rv.fuse r), V.own (1 : Nat)], Obj.arr (3 : Nat) (List.map fR (Rv.F r))] (V.tup [V.sl (1 : Nat) (List.map bR bs), Bo true]) [some (Obj.box [I (Rv.room r), I (Rv.fuse r), V.own (1 : Nat)]), some (Obj.arr (3 : Nat) (List.map fR (Rv.F r)))],
      Contract Tryz.prog (35 : Nat) [V.ptr (0 : Nat) (0 : Nat) (0 : Nat) (0 : Nat), Sg t] [Obj.box [I (Rv.room r), I (Rv.fuse r), V.own (1 : Nat)], Obj.arr (3 : Nat) (List.map fR (Rv.F r))] (I e1) [some (Obj.box [I (Rv.room r1), I (Rv.fuse r1), V.own (2 : Nat)]), none, some (Obj.arr (3 : Nat) (List.map fR (Rv.F r1)))],
      (e1 != (0 : Int)) = false,
      Contract Tryz.prog (9 : Nat) [V.ptr (0 : Nat) (0 : Nat) (0 : Nat) (0 : Nat), Sg t, V.sl (1 : Nat) (List.map bR b)] [Obj.box [I (Rv.room r1), I (Rv.fuse r1), V.own (1 : Nat)], Obj.arr (3 : Nat) (List.map fR (Rv.F r1))] (I e2) [some (Obj.box [I (Rv.room r2), I (Rv.fuse r2), V.own (2 : Nat)]), none, some (Obj.arr (3 : Nat) (List.map fR (Rv.F r2)))],
      (e2 != (0 : Int)) = false,
      Contract Tryz.prog (36 : Nat) [V.ptr (0 : Nat) (0 : Nat) (0 : Nat) (0 : Nat), Sg t] [Obj.box [I (Rv.room r2), I (Rv.fuse r2), V.own (1 : Nat)], Obj.arr (3 : Nat) (List.map fR (Rv.F r2))] (I e3) [some (Obj.box [I (Rv.room r3), I (Rv.fuse r3), V.own (1 : Nat)]), some (Obj.arr (3 : Nat) (List.map fR (Rv.F r3)))],
      (e3 != (0 : Int)) = true] (by kernel_rfl)
    (by
      simp only [allP]
      and_intros <;> first
        | omega
        | exact h0
        | exact h1
        | exact h2
        | exact h3
        | exact ht
        | (simp [n1]; done)
        | (simp [n2]; done)
        | (simp [n3]; done))

theorem svTs (r r1 r2 r3 r4 : Rv) (nm t : ByteArray) (b bs : List UInt8) (e1 e2 e3 e4 : Int) (ht : nm ++ tmpS = t) (hz : nm.size ≤ 1000000) (h0 : Contract Tryz.prog 34 [.ptr 0 0 0 0, .val (.string t)] [r.box 1, r.arr] (.tup [.sl 1 (bs.map bR), Bo true]) [some (r.box 1), some r.arr]) (h1 : Contract Tryz.prog 35 [.ptr 0 0 0 0, .val (.string t)] [r.box 1, r.arr] (I e1) [some (r1.box 2), none, some r1.arr]) (n1 : e1 = 0) (h2 : Contract Tryz.prog 9 [.ptr 0 0 0 0, .val (.string t), .sl 1 (b.map bR)] [r1.box 1, r1.arr] (I e2) [some (r2.box 2), none, some r2.arr]) (n2 : e2 = 0) (h3 : Contract Tryz.prog 36 [.ptr 0 0 0 0, .val (.string t)] [r2.box 1, r2.arr] (I e3) [some (r3.box 1), some r3.arr]) (n3 : e3 ≠ 0) : Contract Tryz.prog 13 [.ptr 0 0 0 0, .val (.string nm), .sl 1 (b.map bR)] [r.box 1, r.arr] (I e3) [some (r3.box 2), none, some r3.arr] := by
  exact Contract.cast (by
    first
      | rfl) (by
    first
      | rfl) (svTs_0 r r1 r2 r3 r4 nm t b bs e1 e2 e3 e4 ht hz h0 h1 n1 h2 n2 h3 n3 )

theorem svTr_0 (r r1 r2 r3 r4 : Rv) (nm t : ByteArray) (b bs : List UInt8) (e1 e2 e3 e4 : Int) (ht : nm ++ tmpS = t) (hz : nm.size ≤ 1000000) (h0 : Contract Tryz.prog 34 [.ptr 0 0 0 0, .val (.string t)] [r.box 1, r.arr] (.tup [.sl 1 (bs.map bR), Bo true]) [some (r.box 1), some r.arr]) (h1 : Contract Tryz.prog 35 [.ptr 0 0 0 0, .val (.string t)] [r.box 1, r.arr] (I e1) [some (r1.box 2), none, some r1.arr]) (n1 : e1 = 0) (h2 : Contract Tryz.prog 9 [.ptr 0 0 0 0, .val (.string t), .sl 1 (b.map bR)] [r1.box 1, r1.arr] (I e2) [some (r2.box 2), none, some r2.arr]) (n2 : e2 = 0) (h3 : Contract Tryz.prog 36 [.ptr 0 0 0 0, .val (.string t)] [r2.box 1, r2.arr] (I e3) [some (r3.box 1), some r3.arr]) (n3 : e3 = 0) (h4 : Contract Tryz.prog 37 [.ptr 0 0 0 0, .val (.string t), .val (.string nm)] [r3.box 1, r3.arr] (I e4) [some (r4.box 2), none, some r4.arr]) : Contract Tryz.prog 13 [.ptr 0 0 0 0, .val (.string nm), .sl 1 (b.map bR)] [r.box 1, r.arr] (I e4) ([some (Obj.box [I (Rv.room r4), I (Rv.fuse r4), V.own (2 : Nat)]), none, some (Obj.arr (3 : Nat) (List.map fR (Rv.F r4)))]) :=
  vcP hmix [.reg 1 [(1, [.idx 0, .be (.val (.string t))], none)], .reg 2 [(2, [.call [0, 1] [] (.tup [.sl 1 (bs.map bR), Bo true]) [some (r.box 1), some r.arr]], none)], .reg 4 [(2, [.call [0, 1] [] (I e1) [some (r1.box 2), none, some r1.arr]], none)], .reg 5 [(1, [], some false)], .reg 7 [(3, [.call [0, 803001] [] (I e2) [some (r2.box 2), none, some r2.arr]], none)], .reg 8 [(1, [], some false)], .reg 10 [(2, [.call [0, 1404001] [] (I e3) [some (r3.box 1), some r3.arr]], none)], .reg 11 [(1, [], some false)], .reg 13 [(3, [.call [0, 1404001] [] (I e4) [some (r4.box 2), none, some r4.arr]], none)]] [2604001] [
      ByteArray.size nm + (4 : Nat) ≤ (9223372036854775807 : Nat),
      { data := { toList := Array.toList (ByteArray.data nm) ++ [(46 : UInt8), (116 : UInt8), (109 : UInt8), (112 : UInt8)] } } = t,
      Contract Tryz.prog (34 : Nat) [V.ptr (0 : Nat) (0 : Nat) (0 : Nat) (0 : Nat), Sg t] [Obj.box [I (Rv.room r), I (Rv.fuse r), V.own (1 : Nat)], Obj.arr (3 : Nat) (List.map fR (Rv.F r))] (V.tup [V.sl (1 : Nat) (List.map bR bs), Bo true]) [some (Obj.box [I (Rv.room r), I (Rv.fuse r), V.own (1 : Nat)]), some (Obj.arr (3 : Nat) (List.map fR (Rv.F r)))],
      Contract Tryz.prog (35 : Nat) [V.ptr (0 : Nat) (0 : Nat) (0 : Nat) (0 : Nat), Sg t] [Obj.box [I (Rv.room r), I (Rv.fuse r), V.own (1 : Nat)], Obj.arr (3 : Nat) (List.map fR (Rv.F r))] (I e1) [some (Obj.box [I (Rv.room r1), I (Rv.fuse r1), V.own (2 : Nat)]), none, some (Obj.arr (3 : Nat) (List.map fR (Rv.F r1)))],
      (e1 != (0 : Int)) = false,
      Contract Tryz.prog (9 : Nat) [V.ptr (0 : Nat) (0 : Nat) (0 : Nat) (0 : Nat), Sg t, V.sl (1 : Nat) (List.map bR b)] [Obj.box [I (Rv.room r1), I (Rv.fuse r1), V.own (1 : Nat)], Obj.arr (3 : Nat) (List.map fR (Rv.F r1))] (I e2) [some (Obj.box [I (Rv.room r2), I (Rv.fuse r2), V.own (2 : Nat)]), none, some (Obj.arr (3 : Nat) (List.map fR (Rv.F r2)))],
      (e2 != (0 : Int)) = false,
      Contract Tryz.prog (36 : Nat) [V.ptr (0 : Nat) (0 : Nat) (0 : Nat) (0 : Nat), Sg t] [Obj.box [I (Rv.room r2), I (Rv.fuse r2), V.own (1 : Nat)], Obj.arr (3 : Nat) (List.map fR (Rv.F r2))] (I e3) [some (Obj.box [I (Rv.room r3), I (Rv.fuse r3), V.own (1 : Nat)]), some (Obj.arr (3 : Nat) (List.map fR (Rv.F r3)))],
      (e3 != (0 : Int)) = false,
      Contract Tryz.prog (37 : Nat) [V.ptr (0 : Nat) (0 : Nat) (0 : Nat) (0 : Nat), Sg t, Sg nm] [Obj.box [I (Rv.room r3), I (Rv.fuse r3), V.own (1 : Nat)], Obj.arr (3 : Nat) (List.map fR (Rv.F r3))] (I e4) [some (Obj.box [I (Rv.room r4), I (Rv.fuse r4), V.own (2 : Nat)]), none, some (Obj.arr (3 : Nat) (List.map fR (Rv.F r4)))]] (by kernel_rfl)
    (by
      simp only [allP]
      and_intros <;> first
        | omega
        | exact h0
        | exact h1
        | exact h2
        | exact h3
        | exact h4
        | exact ht
        | (simp [n1]; done)
        | (simp [n2]; done)
        | (simp [n3]; done))

theorem svTr (r r1 r2 r3 r4 : Rv) (nm t : ByteArray) (b bs : List UInt8) (e1 e2 e3 e4 : Int) (ht : nm ++ tmpS = t) (hz : nm.size ≤ 1000000) (h0 : Contract Tryz.prog 34 [.ptr 0 0 0 0, .val (.string t)] [r.box 1, r.arr] (.tup [.sl 1 (bs.map bR), Bo true]) [some (r.box 1), some r.arr]) (h1 : Contract Tryz.prog 35 [.ptr 0 0 0 0, .val (.string t)] [r.box 1, r.arr] (I e1) [some (r1.box 2), none, some r1.arr]) (n1 : e1 = 0) (h2 : Contract Tryz.prog 9 [.ptr 0 0 0 0, .val (.string t), .sl 1 (b.map bR)] [r1.box 1, r1.arr] (I e2) [some (r2.box 2), none, some r2.arr]) (n2 : e2 = 0) (h3 : Contract Tryz.prog 36 [.ptr 0 0 0 0, .val (.string t)] [r2.box 1, r2.arr] (I e3) [some (r3.box 1), some r3.arr]) (n3 : e3 = 0) (h4 : Contract Tryz.prog 37 [.ptr 0 0 0 0, .val (.string t), .val (.string nm)] [r3.box 1, r3.arr] (I e4) [some (r4.box 2), none, some r4.arr]) : Contract Tryz.prog 13 [.ptr 0 0 0 0, .val (.string nm), .sl 1 (b.map bR)] [r.box 1, r.arr] (I e4) [some (r4.box 2), none, some r4.arr] := by
  exact Contract.cast (by
    first
      | rfl) (by
    first
      | rfl) (svTr_0 r r1 r2 r3 r4 nm t b bs e1 e2 e3 e4 ht hz h0 h1 n1 h2 n2 h3 n3 h4 )

theorem svFa_0 (r r1 r2 r3 r4 : Rv) (nm t : ByteArray) (b bs : List UInt8) (e1 e2 e3 e4 : Int) (ht : nm ++ tmpS = t) (hz : nm.size ≤ 1000000) (h0 : Contract Tryz.prog 34 [.ptr 0 0 0 0, .val (.string t)] [r.box 1, r.arr] (.tup [.sl 1 (bs.map bR), Bo false]) [some (r.box 1), some r.arr]) (h2 : Contract Tryz.prog 9 [.ptr 0 0 0 0, .val (.string t), .sl 1 (b.map bR)] [r.box 1, r.arr] (I e2) [some (r2.box 2), none, some r2.arr]) (n2 : e2 ≠ 0) : Contract Tryz.prog 13 [.ptr 0 0 0 0, .val (.string nm), .sl 1 (b.map bR)] [r.box 1, r.arr] (I e2) ([some (Obj.box [I (Rv.room r2), I (Rv.fuse r2), V.own (2 : Nat)]), none, some (Obj.arr (3 : Nat) (List.map fR (Rv.F r2)))]) :=
  vcP hmix [.reg 1 [(1, [.idx 0, .be (.val (.string t))], none)], .reg 2 [(2, [.call [0, 1] [] (.tup [.sl 1 (bs.map bR), Bo false]) [some (r.box 1), some r.arr]], none)], .reg 7 [(3, [.call [0, 1] [] (I e2) [some (r2.box 2), none, some r2.arr]], none)], .reg 8 [(1, [], some true)]] [1404001] [
      ByteArray.size nm + (4 : Nat) ≤ (9223372036854775807 : Nat),
      { data := { toList := Array.toList (ByteArray.data nm) ++ [(46 : UInt8), (116 : UInt8), (109 : UInt8), (112 : UInt8)] } } = t,
      Contract Tryz.prog (34 : Nat) [V.ptr (0 : Nat) (0 : Nat) (0 : Nat) (0 : Nat), Sg t] [Obj.box [I (Rv.room r), I (Rv.fuse r), V.own (1 : Nat)], Obj.arr (3 : Nat) (List.map fR (Rv.F r))] (V.tup [V.sl (1 : Nat) (List.map bR bs), Bo false]) [some (Obj.box [I (Rv.room r), I (Rv.fuse r), V.own (1 : Nat)]), some (Obj.arr (3 : Nat) (List.map fR (Rv.F r)))],
      Contract Tryz.prog (9 : Nat) [V.ptr (0 : Nat) (0 : Nat) (0 : Nat) (0 : Nat), Sg t, V.sl (1 : Nat) (List.map bR b)] [Obj.box [I (Rv.room r), I (Rv.fuse r), V.own (1 : Nat)], Obj.arr (3 : Nat) (List.map fR (Rv.F r))] (I e2) [some (Obj.box [I (Rv.room r2), I (Rv.fuse r2), V.own (2 : Nat)]), none, some (Obj.arr (3 : Nat) (List.map fR (Rv.F r2)))],
      (e2 != (0 : Int)) = true] (by kernel_rfl)
    (by
      simp only [allP]
      and_intros <;> first
        | omega
        | exact h0
        | exact h2
        | exact ht
        | (simp [n2]; done))

theorem svFa (r r1 r2 r3 r4 : Rv) (nm t : ByteArray) (b bs : List UInt8) (e1 e2 e3 e4 : Int) (ht : nm ++ tmpS = t) (hz : nm.size ≤ 1000000) (h0 : Contract Tryz.prog 34 [.ptr 0 0 0 0, .val (.string t)] [r.box 1, r.arr] (.tup [.sl 1 (bs.map bR), Bo false]) [some (r.box 1), some r.arr]) (h2 : Contract Tryz.prog 9 [.ptr 0 0 0 0, .val (.string t), .sl 1 (b.map bR)] [r.box 1, r.arr] (I e2) [some (r2.box 2), none, some r2.arr]) (n2 : e2 ≠ 0) : Contract Tryz.prog 13 [.ptr 0 0 0 0, .val (.string nm), .sl 1 (b.map bR)] [r.box 1, r.arr] (I e2) [some (r2.box 2), none, some r2.arr] := by
  exact Contract.cast (by
    first
      | rfl) (by
    first
      | rfl) (svFa_0 r r1 r2 r3 r4 nm t b bs e1 e2 e3 e4 ht hz h0 h2 n2 )

theorem svFs_0 (r r1 r2 r3 r4 : Rv) (nm t : ByteArray) (b bs : List UInt8) (e1 e2 e3 e4 : Int) (ht : nm ++ tmpS = t) (hz : nm.size ≤ 1000000) (h0 : Contract Tryz.prog 34 [.ptr 0 0 0 0, .val (.string t)] [r.box 1, r.arr] (.tup [.sl 1 (bs.map bR), Bo false]) [some (r.box 1), some r.arr]) (h2 : Contract Tryz.prog 9 [.ptr 0 0 0 0, .val (.string t), .sl 1 (b.map bR)] [r.box 1, r.arr] (I e2) [some (r2.box 2), none, some r2.arr]) (n2 : e2 = 0) (h3 : Contract Tryz.prog 36 [.ptr 0 0 0 0, .val (.string t)] [r2.box 1, r2.arr] (I e3) [some (r3.box 1), some r3.arr]) (n3 : e3 ≠ 0) : Contract Tryz.prog 13 [.ptr 0 0 0 0, .val (.string nm), .sl 1 (b.map bR)] [r.box 1, r.arr] (I e3) ([some (Obj.box [I (Rv.room r3), I (Rv.fuse r3), V.own (2 : Nat)]), none, some (Obj.arr (3 : Nat) (List.map fR (Rv.F r3)))]) :=
  vcP hmix [.reg 1 [(1, [.idx 0, .be (.val (.string t))], none)], .reg 2 [(2, [.call [0, 1] [] (.tup [.sl 1 (bs.map bR), Bo false]) [some (r.box 1), some r.arr]], none)], .reg 7 [(3, [.call [0, 1] [] (I e2) [some (r2.box 2), none, some r2.arr]], none)], .reg 8 [(1, [], some false)], .reg 10 [(2, [.call [0, 1404001] [] (I e3) [some (r3.box 1), some r3.arr]], none)], .reg 11 [(1, [], some true)]] [1404001] [
      ByteArray.size nm + (4 : Nat) ≤ (9223372036854775807 : Nat),
      { data := { toList := Array.toList (ByteArray.data nm) ++ [(46 : UInt8), (116 : UInt8), (109 : UInt8), (112 : UInt8)] } } = t,
      Contract Tryz.prog (34 : Nat) [V.ptr (0 : Nat) (0 : Nat) (0 : Nat) (0 : Nat), Sg t] [Obj.box [I (Rv.room r), I (Rv.fuse r), V.own (1 : Nat)], Obj.arr (3 : Nat) (List.map fR (Rv.F r))] (V.tup [V.sl (1 : Nat) (List.map bR bs), Bo false]) [some (Obj.box [I (Rv.room r), I (Rv.fuse r), V.own (1 : Nat)]), some (Obj.arr (3 : Nat) (List.map fR (Rv.F r)))],
      Contract Tryz.prog (9 : Nat) [V.ptr (0 : Nat) (0 : Nat) (0 : Nat) (0 : Nat), Sg t, V.sl (1 : Nat) (List.map bR b)] [Obj.box [I (Rv.room r), I (Rv.fuse r), V.own (1 : Nat)], Obj.arr (3 : Nat) (List.map fR (Rv.F r))] (I e2) [some (Obj.box [I (Rv.room r2), I (Rv.fuse r2), V.own (2 : Nat)]), none, some (Obj.arr (3 : Nat) (List.map fR (Rv.F r2)))],
      (e2 != (0 : Int)) = false,
      Contract Tryz.prog (36 : Nat) [V.ptr (0 : Nat) (0 : Nat) (0 : Nat) (0 : Nat), Sg t] [Obj.box [I (Rv.room r2), I (Rv.fuse r2), V.own (1 : Nat)], Obj.arr (3 : Nat) (List.map fR (Rv.F r2))] (I e3) [some (Obj.box [I (Rv.room r3), I (Rv.fuse r3), V.own (1 : Nat)]), some (Obj.arr (3 : Nat) (List.map fR (Rv.F r3)))],
      (e3 != (0 : Int)) = true] (by kernel_rfl)
    (by
      simp only [allP]
      and_intros <;> first
        | omega
        | exact h0
        | exact h2
        | exact h3
        | exact ht
        | (simp [n2]; done)
        | (simp [n3]; done))

theorem svFs (r r1 r2 r3 r4 : Rv) (nm t : ByteArray) (b bs : List UInt8) (e1 e2 e3 e4 : Int) (ht : nm ++ tmpS = t) (hz : nm.size ≤ 1000000) (h0 : Contract Tryz.prog 34 [.ptr 0 0 0 0, .val (.string t)] [r.box 1, r.arr] (.tup [.sl 1 (bs.map bR), Bo false]) [some (r.box 1), some r.arr]) (h2 : Contract Tryz.prog 9 [.ptr 0 0 0 0, .val (.string t), .sl 1 (b.map bR)] [r.box 1, r.arr] (I e2) [some (r2.box 2), none, some r2.arr]) (n2 : e2 = 0) (h3 : Contract Tryz.prog 36 [.ptr 0 0 0 0, .val (.string t)] [r2.box 1, r2.arr] (I e3) [some (r3.box 1), some r3.arr]) (n3 : e3 ≠ 0) : Contract Tryz.prog 13 [.ptr 0 0 0 0, .val (.string nm), .sl 1 (b.map bR)] [r.box 1, r.arr] (I e3) [some (r3.box 2), none, some r3.arr] := by
  exact Contract.cast (by
    first
      | rfl) (by
    first
      | rfl) (svFs_0 r r1 r2 r3 r4 nm t b bs e1 e2 e3 e4 ht hz h0 h2 n2 h3 n3 )

theorem svFr_0 (r r1 r2 r3 r4 : Rv) (nm t : ByteArray) (b bs : List UInt8) (e1 e2 e3 e4 : Int) (ht : nm ++ tmpS = t) (hz : nm.size ≤ 1000000) (h0 : Contract Tryz.prog 34 [.ptr 0 0 0 0, .val (.string t)] [r.box 1, r.arr] (.tup [.sl 1 (bs.map bR), Bo false]) [some (r.box 1), some r.arr]) (h2 : Contract Tryz.prog 9 [.ptr 0 0 0 0, .val (.string t), .sl 1 (b.map bR)] [r.box 1, r.arr] (I e2) [some (r2.box 2), none, some r2.arr]) (n2 : e2 = 0) (h3 : Contract Tryz.prog 36 [.ptr 0 0 0 0, .val (.string t)] [r2.box 1, r2.arr] (I e3) [some (r3.box 1), some r3.arr]) (n3 : e3 = 0) (h4 : Contract Tryz.prog 37 [.ptr 0 0 0 0, .val (.string t), .val (.string nm)] [r3.box 1, r3.arr] (I e4) [some (r4.box 2), none, some r4.arr]) : Contract Tryz.prog 13 [.ptr 0 0 0 0, .val (.string nm), .sl 1 (b.map bR)] [r.box 1, r.arr] (I e4) ([some (Obj.box [I (Rv.room r4), I (Rv.fuse r4), V.own (2 : Nat)]), none, some (Obj.arr (3 : Nat) (List.map fR (Rv.F r4)))]) :=
  vcP hmix [.reg 1 [(1, [.idx 0, .be (.val (.string t))], none)], .reg 2 [(2, [.call [0, 1] [] (.tup [.sl 1 (bs.map bR), Bo false]) [some (r.box 1), some r.arr]], none)], .reg 7 [(3, [.call [0, 1] [] (I e2) [some (r2.box 2), none, some r2.arr]], none)], .reg 8 [(1, [], some false)], .reg 10 [(2, [.call [0, 1404001] [] (I e3) [some (r3.box 1), some r3.arr]], none)], .reg 11 [(1, [], some false)], .reg 13 [(3, [.call [0, 1404001] [] (I e4) [some (r4.box 2), none, some r4.arr]], none)]] [2604001] [
      ByteArray.size nm + (4 : Nat) ≤ (9223372036854775807 : Nat),
      { data := { toList := Array.toList (ByteArray.data nm) ++ [(46 : UInt8), (116 : UInt8), (109 : UInt8), (112 : UInt8)] } } = t,
      Contract Tryz.prog (34 : Nat) [V.ptr (0 : Nat) (0 : Nat) (0 : Nat) (0 : Nat), Sg t] [Obj.box [I (Rv.room r), I (Rv.fuse r), V.own (1 : Nat)], Obj.arr (3 : Nat) (List.map fR (Rv.F r))] (V.tup [V.sl (1 : Nat) (List.map bR bs), Bo false]) [some (Obj.box [I (Rv.room r), I (Rv.fuse r), V.own (1 : Nat)]), some (Obj.arr (3 : Nat) (List.map fR (Rv.F r)))],
      Contract Tryz.prog (9 : Nat) [V.ptr (0 : Nat) (0 : Nat) (0 : Nat) (0 : Nat), Sg t, V.sl (1 : Nat) (List.map bR b)] [Obj.box [I (Rv.room r), I (Rv.fuse r), V.own (1 : Nat)], Obj.arr (3 : Nat) (List.map fR (Rv.F r))] (I e2) [some (Obj.box [I (Rv.room r2), I (Rv.fuse r2), V.own (2 : Nat)]), none, some (Obj.arr (3 : Nat) (List.map fR (Rv.F r2)))],
      (e2 != (0 : Int)) = false,
      Contract Tryz.prog (36 : Nat) [V.ptr (0 : Nat) (0 : Nat) (0 : Nat) (0 : Nat), Sg t] [Obj.box [I (Rv.room r2), I (Rv.fuse r2), V.own (1 : Nat)], Obj.arr (3 : Nat) (List.map fR (Rv.F r2))] (I e3) [some (Obj.box [I (Rv.room r3), I (Rv.fuse r3), V.own (1 : Nat)]), some (Obj.arr (3 : Nat) (List.map fR (Rv.F r3)))],
      (e3 != (0 : Int)) = false,
      Contract Tryz.prog (37 : Nat) [V.ptr (0 : Nat) (0 : Nat) (0 : Nat) (0 : Nat), Sg t, Sg nm] [Obj.box [I (Rv.room r3), I (Rv.fuse r3), V.own (1 : Nat)], Obj.arr (3 : Nat) (List.map fR (Rv.F r3))] (I e4) [some (Obj.box [I (Rv.room r4), I (Rv.fuse r4), V.own (2 : Nat)]), none, some (Obj.arr (3 : Nat) (List.map fR (Rv.F r4)))]] (by kernel_rfl)
    (by
      simp only [allP]
      and_intros <;> first
        | omega
        | exact h0
        | exact h2
        | exact h3
        | exact h4
        | exact ht
        | (simp [n2]; done)
        | (simp [n3]; done))

theorem svFr (r r1 r2 r3 r4 : Rv) (nm t : ByteArray) (b bs : List UInt8) (e1 e2 e3 e4 : Int) (ht : nm ++ tmpS = t) (hz : nm.size ≤ 1000000) (h0 : Contract Tryz.prog 34 [.ptr 0 0 0 0, .val (.string t)] [r.box 1, r.arr] (.tup [.sl 1 (bs.map bR), Bo false]) [some (r.box 1), some r.arr]) (h2 : Contract Tryz.prog 9 [.ptr 0 0 0 0, .val (.string t), .sl 1 (b.map bR)] [r.box 1, r.arr] (I e2) [some (r2.box 2), none, some r2.arr]) (n2 : e2 = 0) (h3 : Contract Tryz.prog 36 [.ptr 0 0 0 0, .val (.string t)] [r2.box 1, r2.arr] (I e3) [some (r3.box 1), some r3.arr]) (n3 : e3 = 0) (h4 : Contract Tryz.prog 37 [.ptr 0 0 0 0, .val (.string t), .val (.string nm)] [r3.box 1, r3.arr] (I e4) [some (r4.box 2), none, some r4.arr]) : Contract Tryz.prog 13 [.ptr 0 0 0 0, .val (.string nm), .sl 1 (b.map bR)] [r.box 1, r.arr] (I e4) [some (r4.box 2), none, some r4.arr] := by
  exact Contract.cast (by
    first
      | rfl) (by
    first
      | rfl) (svFr_0 r r1 r2 r3 r4 nm t b bs e1 e2 e3 e4 ht hz h0 h2 n2 h3 n3 h4 )

theorem append_few {d : Dv} (s : ByteArray) (b : List UInt8) : (d.append s b).1.fs.length ≤ d.fs.length + 1 := by
  unfold Dv.append
  split
  · exact Nat.le_succ _
  split
  · exact Nat.le_succ _
  split
  · exact Nat.le_succ _
  · simp only [Dv.went, length_put]; split <;> omega
theorem sync_few {d : Dv} (s : ByteArray) : (d.sync s).1.fs.length ≤ d.fs.length := by
  unfold Dv.sync
  split
  · exact Nat.le_refl _
  cases hl : look d.fs s with
  | none => exact Nat.le_refl _
  | some f => simp only [Dv.went, length_put, hl, Option.isSome_some, if_true]; omega
theorem relPutA {d : Dv} {r : Rv} (nm : ByteArray) (b : List UInt8) (hk : Ok d) (h : Rel d r) (hb : tot d.fs + b.length ≤ 1000000000) (hz : nm.size ≤ 1000000) (hl : d.fs.length ≤ 900000) (hn : (look d.fs (nm ++ tmpS)).isSome = false) :
    ∃ r', Contract Tryz.prog 13 [.ptr 0 0 0 0, .val (.string nm), .sl 1 (b.map bR)] [r.box 1, r.arr] (I (d.putA nm b).2) [some (r'.box 2), none, some r'.arr] ∧ Rel (d.putA nm b).1 r' := by
  have htz : (nm ++ tmpS).size ≤ maxLen := by
    have : (nm ++ tmpS).size = nm.size + 4 := by rw [ByteArray.size_append]; rfl
    rw [this]; unfold maxLen; omega
  have hr := relRead (nm ++ tmpS) hk h (by omega)
  rw [hn] at hr
  obtain ⟨r2, ha, q2⟩ := relAppend (nm ++ tmpS) b hk h (by omega) (by omega)
  have hao := append_ok (s := nm ++ tmpS) (b := b) hk (by omega) htz (by omega)
  have hf2 := append_few (d := d) (nm ++ tmpS) b
  unfold Dv.putA
  by_cases n2 : (d.append (nm ++ tmpS) b).2 = 0
  · rw [if_neg (fun h => h n2)]
    obtain ⟨r3, hs, q3⟩ := relSync (nm ++ tmpS) hao q2 (by omega)
    have hso := sync_ok (s := nm ++ tmpS) hao
    have hf3 := sync_few (d := (d.append (nm ++ tmpS) b).1) (nm ++ tmpS)
    by_cases n3 : ((d.append (nm ++ tmpS) b).1.sync (nm ++ tmpS)).2 = 0
    · rw [if_neg (fun h => h n3)]
      obtain ⟨r4, hm, q4⟩ := relRename (nm ++ tmpS) nm hso q3 (by omega)
      exact ⟨r4, svFr r r r2 r3 r4 nm _ b _ 0 _ _ _ rfl hz hr ha n2 hs n3 hm, q4⟩
    · rw [if_pos n3]
      exact ⟨r3, svFs r r r2 r3 r nm _ b _ 0 _ _ 0 rfl hz hr ha n2 hs n3, q3⟩
  · rw [if_pos n2]
    exact ⟨r2, svFa r r r2 r r nm _ b _ 0 _ 0 0 rfl hz hr ha n2, q2⟩
theorem relPut {d : Dv} {r : Rv} (nm : ByteArray) (b : List UInt8) (hk : Ok d) (h : Rel d r) (hb : tot d.fs + b.length ≤ 1000000000) (hz : nm.size ≤ 1000000) (hl : d.fs.length ≤ 900000) :
    ∃ r', Contract Tryz.prog 13 [.ptr 0 0 0 0, .val (.string nm), .sl 1 (b.map bR)] [r.box 1, r.arr] (I (d.put nm b).2) [some (r'.box 2), none, some r'.arr] ∧ Rel (d.put nm b).1 r' := by
  have htz : (nm ++ tmpS).size ≤ maxLen := by
    have : (nm ++ tmpS).size = nm.size + 4 := by rw [ByteArray.size_append]; rfl
    rw [this]; unfold maxLen; omega
  unfold Dv.put
  cases hlk : (look d.fs (nm ++ tmpS)).isSome with
  | false => rw [if_neg (by decide)]; exact relPutA nm b hk h hb hz hl hlk
  | true =>
    have hr := relRead (nm ++ tmpS) hk h (by omega)
    rw [hlk] at hr
    rw [if_pos rfl]
    obtain ⟨r1, hd, q1⟩ := relDelete (nm ++ tmpS) hk h (by omega)
    have hko := delete_ok (s := nm ++ tmpS) hk
    have hds := delete_sz (nm ++ tmpS) hk
    by_cases n1 : (d.delete (nm ++ tmpS)).2 = 0
    · rw [if_neg (fun h => h n1)]
      obtain ⟨r2, ha, q2⟩ := relAppend (nm ++ tmpS) b hko q1 (by omega) (by omega)
      have hao := append_ok (s := nm ++ tmpS) (b := b) hko (by omega) htz (by omega)
      have hf2 := append_few (d := (d.delete (nm ++ tmpS)).1) (nm ++ tmpS) b
      unfold Dv.putA
      by_cases n2 : ((d.delete (nm ++ tmpS)).1.append (nm ++ tmpS) b).2 = 0
      · rw [if_neg (fun h => h n2)]
        obtain ⟨r3, hs, q3⟩ := relSync (nm ++ tmpS) hao q2 (by omega)
        have hso := sync_ok (s := nm ++ tmpS) hao
        have hf3 := sync_few (d := ((d.delete (nm ++ tmpS)).1.append (nm ++ tmpS) b).1) (nm ++ tmpS)
        by_cases n3 : (((d.delete (nm ++ tmpS)).1.append (nm ++ tmpS) b).1.sync (nm ++ tmpS)).2 = 0
        · rw [if_neg (fun h => h n3)]
          obtain ⟨r4, hm, q4⟩ := relRename (nm ++ tmpS) nm hso q3 (by omega)
          exact ⟨r4, svTr r r1 r2 r3 r4 nm _ b _ _ _ _ _ rfl hz hr hd n1 ha n2 hs n3 hm, q4⟩
        · rw [if_pos n3]
          exact ⟨r3, svTs r r1 r2 r3 r nm _ b _ _ _ _ 0 rfl hz hr hd n1 ha n2 hs n3, q3⟩
      · rw [if_pos n2]
        exact ⟨r2, svTa r r1 r2 r r nm _ b _ _ _ 0 0 rfl hz hr hd n1 ha n2, q2⟩
    · rw [if_pos n1]
      exact ⟨r1, svTd r r1 r r r nm _ b _ _ 0 0 0 rfl hz hr hd n1, q1⟩
theorem ren_few (e : Dv) (s t : ByteArray) : (e.rename s t).1.fs.length ≤ e.fs.length + 1 := by
  unfold Dv.rename
  split
  · exact Nat.le_succ _
  cases look e.fs s with
  | none => exact Nat.le_succ _
  | some f =>
    simp only
    split
    · exact Nat.le_succ _
    split
    · exact Nat.le_succ _
    · simp only [Dv.went, List.length_append, List.length_singleton]
      have h4 := length_del (del e.fs t) s
      have h5 := length_del e.fs t
      omega
theorem putA_few (e : Dv) (nm : ByteArray) (b : List UInt8) : (e.putA nm b).1.fs.length ≤ e.fs.length + 2 := by
  have h1 := append_few (d := e) (nm ++ tmpS) b
  have h2 := sync_few (d := (e.append (nm ++ tmpS) b).1) (nm ++ tmpS)
  have h3 := ren_few ((e.append (nm ++ tmpS) b).1.sync (nm ++ tmpS)).1 (nm ++ tmpS) nm
  unfold Dv.putA
  split
  · omega
  split
  · omega
  · omega
theorem put_few {d : Dv} (nm : ByteArray) (b : List UInt8) (hk : Ok d) : (d.put nm b).1.fs.length ≤ d.fs.length + 2 := by
  have h0 := (delete_sz (nm ++ tmpS) hk).2
  have h1 := putA_few d nm b
  have h2 := putA_few (d.delete (nm ++ tmpS)).1 nm b
  unfold Dv.put
  split
  · split
    · omega
    · omega
  · omega
end Go.Proofs.YtinfjnnffmlpmaaGreatDoor

/- ShelfPlays: rounds. -/
namespace Go.Proofs.YtinfjnnffmlpmaaGreatDoor
open E
set_option maxRecDepth 100000
set_option linter.unusedVariables false
set_option linter.unusedSimpArgs false

structure Ac where
  way : Int
  n : Int
  nm : ByteArray
  to : ByteArray
  dat : List UInt8
  pk : List Int
def Ac.row (a : Ac) : List V := [I a.way, I a.n, .val (.string a.nm), .val (.string a.to), .sl 1 (a.dat.map bR), .sl 1 (a.pk.map iR)]
def fwS (l : List Ac) (i : Nat) : SL := ⟨[(0, .sl 6 (l.map Ac.row)), (3, I i)], [], []⟩
def fwT : SL := ⟨[(2, Bo false)], [], []⟩
def plS (l : List Ac) (n : ByteArray) (b : List UInt8) (k : Int) (d : Dv) (r : Rv) (i : Nat) : SL := ⟨[(1, .sl 6 (l.map Ac.row)), (2, .val (.string n)), (3, .sl 1 (b.map bR)), (4, I k), (12, .ptr 802001 0 0 0), (13, .ptr 1002001 0 0 0), (14, I i)], [(802001, d.box 901), (901, d.map), (1002001, r.box 903), (903, r.arr)], [802001, 901, 1002001, 903]⟩
noncomputable def fwB : Code := codeAt Tryz.prog 5 [true, false, true, false, false]

noncomputable def plB : Code := codeAt Tryz.prog 3 [true, true, true, true, true, true, false, true, false, false]

theorem fwG_0 (l : List Ac) (a : Ac) (i : Nat) (hx : l[i]? = some a) (hi : i < l.length) (hl : l.length ≤ 9223372036854775807) (g0 : ¬ 100 < a.dat.length) (g1 : ¬ 20 < a.nm.size) (g2 : ¬ 20 < a.to.size) (g3 : ¬ 20 < a.pk.length) : CodeC Tryz.prog 0 47 fwB (fwS l i) (Ex.normal) ({ env := [((0 : Nat), V.sl (6 : Nat) (List.map (fun a0 => [I (Ac.way a0), I (Ac.n a0), Sg (Ac.nm a0), Sg (Ac.to a0), V.sl (1 : Nat) (List.map bR (Ac.dat a0)), V.sl (1 : Nat) (List.map iR (Ac.pk a0))]) l)), ((3 : Nat), I (Int.ofNat (i + (1 : Nat))))], st := [], ids := [] }) :=
  runP hmix [.reg 2 [(3, [], some true)], .reg 4 [(4, [.row (a.row)], none), (6, [], some false), (12, [.row (a.row)], none), (14, [], some false), (21, [.row (a.row)], none), (23, [], some false), (30, [.row (a.row)], none), (32, [], some false)], .reg 3 [(1, [.be (I ((i + 1 : Nat) : Int))], none)]] ⟨[0, 3], [], []⟩ [
      decide (Int.ofNat i < Int.ofNat (List.length (List.map (fun a0 => [I (Ac.way a0), I (Ac.n a0), Sg (Ac.nm a0), Sg (Ac.to a0), V.sl (1 : Nat) (List.map bR (Ac.dat a0)), V.sl (1 : Nat) (List.map iR (Ac.pk a0))]) l))) = true,
      (0 : Int) ≤ Int.ofNat i,
      Int.ofNat i < Int.ofNat (List.length (List.map (fun a0 => [I (Ac.way a0), I (Ac.n a0), Sg (Ac.nm a0), Sg (Ac.to a0), V.sl (1 : Nat) (List.map bR (Ac.dat a0)), V.sl (1 : Nat) (List.map iR (Ac.pk a0))]) l)),
      (List.map (fun a0 => [I (Ac.way a0), I (Ac.n a0), Sg (Ac.nm a0), Sg (Ac.to a0), V.sl (1 : Nat) (List.map bR (Ac.dat a0)), V.sl (1 : Nat) (List.map iR (Ac.pk a0))]) l)[i]? = some [I (Ac.way a), I (Ac.n a), Sg (Ac.nm a), Sg (Ac.to a), V.sl (1 : Nat) (List.map bR (Ac.dat a)), V.sl (1 : Nat) (List.map iR (Ac.pk a))],
      decide (Int.ofNat (List.length (List.map bR (Ac.dat a))) > (100 : Int)) = false,
      (0 : Int) ≤ Int.ofNat i,
      Int.ofNat i < Int.ofNat (List.length (List.map (fun a0 => [I (Ac.way a0), I (Ac.n a0), Sg (Ac.nm a0), Sg (Ac.to a0), V.sl (1 : Nat) (List.map bR (Ac.dat a0)), V.sl (1 : Nat) (List.map iR (Ac.pk a0))]) l)),
      (List.map (fun a0 => [I (Ac.way a0), I (Ac.n a0), Sg (Ac.nm a0), Sg (Ac.to a0), V.sl (1 : Nat) (List.map bR (Ac.dat a0)), V.sl (1 : Nat) (List.map iR (Ac.pk a0))]) l)[i]? = some [I (Ac.way a), I (Ac.n a), Sg (Ac.nm a), Sg (Ac.to a), V.sl (1 : Nat) (List.map bR (Ac.dat a)), V.sl (1 : Nat) (List.map iR (Ac.pk a))],
      decide (Int.ofNat (ByteArray.size (Ac.nm a)) > (20 : Int)) = false,
      (0 : Int) ≤ Int.ofNat i,
      Int.ofNat i < Int.ofNat (List.length (List.map (fun a0 => [I (Ac.way a0), I (Ac.n a0), Sg (Ac.nm a0), Sg (Ac.to a0), V.sl (1 : Nat) (List.map bR (Ac.dat a0)), V.sl (1 : Nat) (List.map iR (Ac.pk a0))]) l)),
      (List.map (fun a0 => [I (Ac.way a0), I (Ac.n a0), Sg (Ac.nm a0), Sg (Ac.to a0), V.sl (1 : Nat) (List.map bR (Ac.dat a0)), V.sl (1 : Nat) (List.map iR (Ac.pk a0))]) l)[i]? = some [I (Ac.way a), I (Ac.n a), Sg (Ac.nm a), Sg (Ac.to a), V.sl (1 : Nat) (List.map bR (Ac.dat a)), V.sl (1 : Nat) (List.map iR (Ac.pk a))],
      decide (Int.ofNat (ByteArray.size (Ac.to a)) > (20 : Int)) = false,
      (0 : Int) ≤ Int.ofNat i,
      Int.ofNat i < Int.ofNat (List.length (List.map (fun a0 => [I (Ac.way a0), I (Ac.n a0), Sg (Ac.nm a0), Sg (Ac.to a0), V.sl (1 : Nat) (List.map bR (Ac.dat a0)), V.sl (1 : Nat) (List.map iR (Ac.pk a0))]) l)),
      (List.map (fun a0 => [I (Ac.way a0), I (Ac.n a0), Sg (Ac.nm a0), Sg (Ac.to a0), V.sl (1 : Nat) (List.map bR (Ac.dat a0)), V.sl (1 : Nat) (List.map iR (Ac.pk a0))]) l)[i]? = some [I (Ac.way a), I (Ac.n a), Sg (Ac.nm a), Sg (Ac.to a), V.sl (1 : Nat) (List.map bR (Ac.dat a)), V.sl (1 : Nat) (List.map iR (Ac.pk a))],
      decide (Int.ofNat (List.length (List.map iR (Ac.pk a))) > (20 : Int)) = false,
      IntKind.wrap IntKind.i64 (Int.ofNat (i + (1 : Nat))) = Int.ofNat (i + (1 : Nat))] (by kernel_rfl)
    (by
      simp only [allP]
      and_intros <;> first
        | (simp [hx]; done)
        | exact i64_small (by simp; omega)
        | (simp; omega))

theorem fwG (l : List Ac) (a : Ac) (i : Nat) (hx : l[i]? = some a) (hi : i < l.length) (hl : l.length ≤ 9223372036854775807) (g0 : ¬ 100 < a.dat.length) (g1 : ¬ 20 < a.nm.size) (g2 : ¬ 20 < a.to.size) (g3 : ¬ 20 < a.pk.length)  : CodeC Tryz.prog 0 47 fwB (fwS l i) .normal (fwS l (i + 1)) := by
  exact CodeC.cast (by
    first
      | rfl) (fwG_0 l a i hx hi hl g0 g1 g2 g3 )

theorem fwP0_0 (l : List Ac) (a : Ac) (i : Nat) (hx : l[i]? = some a) (hi : i < l.length) (hl : l.length ≤ 9223372036854775807) (g0 : 100 < a.dat.length) : CodeC Tryz.prog 0 47 fwB (fwS l i) (Ex.ret) ({ env := [((2 : Nat), Bo false)], st := [], ids := [] }) :=
  runP hmix [.reg 2 [(3, [], some true)], .reg 4 [(4, [.row (a.row)], none), (6, [], some true)]] ⟨[2], [], []⟩ [
      decide (Int.ofNat i < Int.ofNat (List.length (List.map (fun a0 => [I (Ac.way a0), I (Ac.n a0), Sg (Ac.nm a0), Sg (Ac.to a0), V.sl (1 : Nat) (List.map bR (Ac.dat a0)), V.sl (1 : Nat) (List.map iR (Ac.pk a0))]) l))) = true,
      (0 : Int) ≤ Int.ofNat i,
      Int.ofNat i < Int.ofNat (List.length (List.map (fun a0 => [I (Ac.way a0), I (Ac.n a0), Sg (Ac.nm a0), Sg (Ac.to a0), V.sl (1 : Nat) (List.map bR (Ac.dat a0)), V.sl (1 : Nat) (List.map iR (Ac.pk a0))]) l)),
      (List.map (fun a0 => [I (Ac.way a0), I (Ac.n a0), Sg (Ac.nm a0), Sg (Ac.to a0), V.sl (1 : Nat) (List.map bR (Ac.dat a0)), V.sl (1 : Nat) (List.map iR (Ac.pk a0))]) l)[i]? = some [I (Ac.way a), I (Ac.n a), Sg (Ac.nm a), Sg (Ac.to a), V.sl (1 : Nat) (List.map bR (Ac.dat a)), V.sl (1 : Nat) (List.map iR (Ac.pk a))],
      decide (Int.ofNat (List.length (List.map bR (Ac.dat a))) > (100 : Int)) = true] (by kernel_rfl)
    (by
      simp only [allP]
      and_intros <;> first
        | (simp [hx]; done)
        | (simp; omega))

theorem fwP0 (l : List Ac) (a : Ac) (i : Nat) (hx : l[i]? = some a) (hi : i < l.length) (hl : l.length ≤ 9223372036854775807) (g0 : 100 < a.dat.length)  : CodeC Tryz.prog 0 47 fwB (fwS l i) .ret (fwT) := by
  exact CodeC.cast (by
    first
      | rfl) (fwP0_0 l a i hx hi hl g0 )

theorem fwP1_0 (l : List Ac) (a : Ac) (i : Nat) (hx : l[i]? = some a) (hi : i < l.length) (hl : l.length ≤ 9223372036854775807) (g0 : ¬ 100 < a.dat.length) (g1 : 20 < a.nm.size) : CodeC Tryz.prog 0 47 fwB (fwS l i) (Ex.ret) ({ env := [((2 : Nat), Bo false)], st := [], ids := [] }) :=
  runP hmix [.reg 2 [(3, [], some true)], .reg 4 [(4, [.row (a.row)], none), (6, [], some false), (12, [.row (a.row)], none), (14, [], some true)]] ⟨[2], [], []⟩ [
      decide (Int.ofNat i < Int.ofNat (List.length (List.map (fun a0 => [I (Ac.way a0), I (Ac.n a0), Sg (Ac.nm a0), Sg (Ac.to a0), V.sl (1 : Nat) (List.map bR (Ac.dat a0)), V.sl (1 : Nat) (List.map iR (Ac.pk a0))]) l))) = true,
      (0 : Int) ≤ Int.ofNat i,
      Int.ofNat i < Int.ofNat (List.length (List.map (fun a0 => [I (Ac.way a0), I (Ac.n a0), Sg (Ac.nm a0), Sg (Ac.to a0), V.sl (1 : Nat) (List.map bR (Ac.dat a0)), V.sl (1 : Nat) (List.map iR (Ac.pk a0))]) l)),
      (List.map (fun a0 => [I (Ac.way a0), I (Ac.n a0), Sg (Ac.nm a0), Sg (Ac.to a0), V.sl (1 : Nat) (List.map bR (Ac.dat a0)), V.sl (1 : Nat) (List.map iR (Ac.pk a0))]) l)[i]? = some [I (Ac.way a), I (Ac.n a), Sg (Ac.nm a), Sg (Ac.to a), V.sl (1 : Nat) (List.map bR (Ac.dat a)), V.sl (1 : Nat) (List.map iR (Ac.pk a))],
      decide (Int.ofNat (List.length (List.map bR (Ac.dat a))) > (100 : Int)) = false,
      (0 : Int) ≤ Int.ofNat i,
      Int.ofNat i < Int.ofNat (List.length (List.map (fun a0 => [I (Ac.way a0), I (Ac.n a0), Sg (Ac.nm a0), Sg (Ac.to a0), V.sl (1 : Nat) (List.map bR (Ac.dat a0)), V.sl (1 : Nat) (List.map iR (Ac.pk a0))]) l)),
      (List.map (fun a0 => [I (Ac.way a0), I (Ac.n a0), Sg (Ac.nm a0), Sg (Ac.to a0), V.sl (1 : Nat) (List.map bR (Ac.dat a0)), V.sl (1 : Nat) (List.map iR (Ac.pk a0))]) l)[i]? = some [I (Ac.way a), I (Ac.n a), Sg (Ac.nm a), Sg (Ac.to a), V.sl (1 : Nat) (List.map bR (Ac.dat a)), V.sl (1 : Nat) (List.map iR (Ac.pk a))],
      decide (Int.ofNat (ByteArray.size (Ac.nm a)) > (20 : Int)) = true] (by kernel_rfl)
    (by
      simp only [allP]
      and_intros <;> first
        | (simp [hx]; done)
        | (simp; omega))

theorem fwP1 (l : List Ac) (a : Ac) (i : Nat) (hx : l[i]? = some a) (hi : i < l.length) (hl : l.length ≤ 9223372036854775807) (g0 : ¬ 100 < a.dat.length) (g1 : 20 < a.nm.size)  : CodeC Tryz.prog 0 47 fwB (fwS l i) .ret (fwT) := by
  exact CodeC.cast (by
    first
      | rfl) (fwP1_0 l a i hx hi hl g0 g1 )

theorem fwP2_0 (l : List Ac) (a : Ac) (i : Nat) (hx : l[i]? = some a) (hi : i < l.length) (hl : l.length ≤ 9223372036854775807) (g0 : ¬ 100 < a.dat.length) (g1 : ¬ 20 < a.nm.size) (g2 : 20 < a.to.size) : CodeC Tryz.prog 0 47 fwB (fwS l i) (Ex.ret) ({ env := [((2 : Nat), Bo false)], st := [], ids := [] }) :=
  runP hmix [.reg 2 [(3, [], some true)], .reg 4 [(4, [.row (a.row)], none), (6, [], some false), (12, [.row (a.row)], none), (14, [], some false), (21, [.row (a.row)], none), (23, [], some true)]] ⟨[2], [], []⟩ [
      decide (Int.ofNat i < Int.ofNat (List.length (List.map (fun a0 => [I (Ac.way a0), I (Ac.n a0), Sg (Ac.nm a0), Sg (Ac.to a0), V.sl (1 : Nat) (List.map bR (Ac.dat a0)), V.sl (1 : Nat) (List.map iR (Ac.pk a0))]) l))) = true,
      (0 : Int) ≤ Int.ofNat i,
      Int.ofNat i < Int.ofNat (List.length (List.map (fun a0 => [I (Ac.way a0), I (Ac.n a0), Sg (Ac.nm a0), Sg (Ac.to a0), V.sl (1 : Nat) (List.map bR (Ac.dat a0)), V.sl (1 : Nat) (List.map iR (Ac.pk a0))]) l)),
      (List.map (fun a0 => [I (Ac.way a0), I (Ac.n a0), Sg (Ac.nm a0), Sg (Ac.to a0), V.sl (1 : Nat) (List.map bR (Ac.dat a0)), V.sl (1 : Nat) (List.map iR (Ac.pk a0))]) l)[i]? = some [I (Ac.way a), I (Ac.n a), Sg (Ac.nm a), Sg (Ac.to a), V.sl (1 : Nat) (List.map bR (Ac.dat a)), V.sl (1 : Nat) (List.map iR (Ac.pk a))],
      decide (Int.ofNat (List.length (List.map bR (Ac.dat a))) > (100 : Int)) = false,
      (0 : Int) ≤ Int.ofNat i,
      Int.ofNat i < Int.ofNat (List.length (List.map (fun a0 => [I (Ac.way a0), I (Ac.n a0), Sg (Ac.nm a0), Sg (Ac.to a0), V.sl (1 : Nat) (List.map bR (Ac.dat a0)), V.sl (1 : Nat) (List.map iR (Ac.pk a0))]) l)),
      (List.map (fun a0 => [I (Ac.way a0), I (Ac.n a0), Sg (Ac.nm a0), Sg (Ac.to a0), V.sl (1 : Nat) (List.map bR (Ac.dat a0)), V.sl (1 : Nat) (List.map iR (Ac.pk a0))]) l)[i]? = some [I (Ac.way a), I (Ac.n a), Sg (Ac.nm a), Sg (Ac.to a), V.sl (1 : Nat) (List.map bR (Ac.dat a)), V.sl (1 : Nat) (List.map iR (Ac.pk a))],
      decide (Int.ofNat (ByteArray.size (Ac.nm a)) > (20 : Int)) = false,
      (0 : Int) ≤ Int.ofNat i,
      Int.ofNat i < Int.ofNat (List.length (List.map (fun a0 => [I (Ac.way a0), I (Ac.n a0), Sg (Ac.nm a0), Sg (Ac.to a0), V.sl (1 : Nat) (List.map bR (Ac.dat a0)), V.sl (1 : Nat) (List.map iR (Ac.pk a0))]) l)),
      (List.map (fun a0 => [I (Ac.way a0), I (Ac.n a0), Sg (Ac.nm a0), Sg (Ac.to a0), V.sl (1 : Nat) (List.map bR (Ac.dat a0)), V.sl (1 : Nat) (List.map iR (Ac.pk a0))]) l)[i]? = some [I (Ac.way a), I (Ac.n a), Sg (Ac.nm a), Sg (Ac.to a), V.sl (1 : Nat) (List.map bR (Ac.dat a)), V.sl (1 : Nat) (List.map iR (Ac.pk a))],
      decide (Int.ofNat (ByteArray.size (Ac.to a)) > (20 : Int)) = true] (by kernel_rfl)
    (by
      simp only [allP]
      and_intros <;> first
        | (simp [hx]; done)
        | (simp; omega))

theorem fwP2 (l : List Ac) (a : Ac) (i : Nat) (hx : l[i]? = some a) (hi : i < l.length) (hl : l.length ≤ 9223372036854775807) (g0 : ¬ 100 < a.dat.length) (g1 : ¬ 20 < a.nm.size) (g2 : 20 < a.to.size)  : CodeC Tryz.prog 0 47 fwB (fwS l i) .ret (fwT) := by
  exact CodeC.cast (by
    first
      | rfl) (fwP2_0 l a i hx hi hl g0 g1 g2 )

theorem fwP3_0 (l : List Ac) (a : Ac) (i : Nat) (hx : l[i]? = some a) (hi : i < l.length) (hl : l.length ≤ 9223372036854775807) (g0 : ¬ 100 < a.dat.length) (g1 : ¬ 20 < a.nm.size) (g2 : ¬ 20 < a.to.size) (g3 : 20 < a.pk.length) : CodeC Tryz.prog 0 47 fwB (fwS l i) (Ex.ret) ({ env := [((2 : Nat), Bo false)], st := [], ids := [] }) :=
  runP hmix [.reg 2 [(3, [], some true)], .reg 4 [(4, [.row (a.row)], none), (6, [], some false), (12, [.row (a.row)], none), (14, [], some false), (21, [.row (a.row)], none), (23, [], some false), (30, [.row (a.row)], none), (32, [], some true)]] ⟨[2], [], []⟩ [
      decide (Int.ofNat i < Int.ofNat (List.length (List.map (fun a0 => [I (Ac.way a0), I (Ac.n a0), Sg (Ac.nm a0), Sg (Ac.to a0), V.sl (1 : Nat) (List.map bR (Ac.dat a0)), V.sl (1 : Nat) (List.map iR (Ac.pk a0))]) l))) = true,
      (0 : Int) ≤ Int.ofNat i,
      Int.ofNat i < Int.ofNat (List.length (List.map (fun a0 => [I (Ac.way a0), I (Ac.n a0), Sg (Ac.nm a0), Sg (Ac.to a0), V.sl (1 : Nat) (List.map bR (Ac.dat a0)), V.sl (1 : Nat) (List.map iR (Ac.pk a0))]) l)),
      (List.map (fun a0 => [I (Ac.way a0), I (Ac.n a0), Sg (Ac.nm a0), Sg (Ac.to a0), V.sl (1 : Nat) (List.map bR (Ac.dat a0)), V.sl (1 : Nat) (List.map iR (Ac.pk a0))]) l)[i]? = some [I (Ac.way a), I (Ac.n a), Sg (Ac.nm a), Sg (Ac.to a), V.sl (1 : Nat) (List.map bR (Ac.dat a)), V.sl (1 : Nat) (List.map iR (Ac.pk a))],
      decide (Int.ofNat (List.length (List.map bR (Ac.dat a))) > (100 : Int)) = false,
      (0 : Int) ≤ Int.ofNat i,
      Int.ofNat i < Int.ofNat (List.length (List.map (fun a0 => [I (Ac.way a0), I (Ac.n a0), Sg (Ac.nm a0), Sg (Ac.to a0), V.sl (1 : Nat) (List.map bR (Ac.dat a0)), V.sl (1 : Nat) (List.map iR (Ac.pk a0))]) l)),
      (List.map (fun a0 => [I (Ac.way a0), I (Ac.n a0), Sg (Ac.nm a0), Sg (Ac.to a0), V.sl (1 : Nat) (List.map bR (Ac.dat a0)), V.sl (1 : Nat) (List.map iR (Ac.pk a0))]) l)[i]? = some [I (Ac.way a), I (Ac.n a), Sg (Ac.nm a), Sg (Ac.to a), V.sl (1 : Nat) (List.map bR (Ac.dat a)), V.sl (1 : Nat) (List.map iR (Ac.pk a))],
      decide (Int.ofNat (ByteArray.size (Ac.nm a)) > (20 : Int)) = false,
      (0 : Int) ≤ Int.ofNat i,
      Int.ofNat i < Int.ofNat (List.length (List.map (fun a0 => [I (Ac.way a0), I (Ac.n a0), Sg (Ac.nm a0), Sg (Ac.to a0), V.sl (1 : Nat) (List.map bR (Ac.dat a0)), V.sl (1 : Nat) (List.map iR (Ac.pk a0))]) l)),
      (List.map (fun a0 => [I (Ac.way a0), I (Ac.n a0), Sg (Ac.nm a0), Sg (Ac.to a0), V.sl (1 : Nat) (List.map bR (Ac.dat a0)), V.sl (1 : Nat) (List.map iR (Ac.pk a0))]) l)[i]? = some [I (Ac.way a), I (Ac.n a), Sg (Ac.nm a), Sg (Ac.to a), V.sl (1 : Nat) (List.map bR (Ac.dat a)), V.sl (1 : Nat) (List.map iR (Ac.pk a))],
      decide (Int.ofNat (ByteArray.size (Ac.to a)) > (20 : Int)) = false,
      (0 : Int) ≤ Int.ofNat i,
      Int.ofNat i < Int.ofNat (List.length (List.map (fun a0 => [I (Ac.way a0), I (Ac.n a0), Sg (Ac.nm a0), Sg (Ac.to a0), V.sl (1 : Nat) (List.map bR (Ac.dat a0)), V.sl (1 : Nat) (List.map iR (Ac.pk a0))]) l)),
      (List.map (fun a0 => [I (Ac.way a0), I (Ac.n a0), Sg (Ac.nm a0), Sg (Ac.to a0), V.sl (1 : Nat) (List.map bR (Ac.dat a0)), V.sl (1 : Nat) (List.map iR (Ac.pk a0))]) l)[i]? = some [I (Ac.way a), I (Ac.n a), Sg (Ac.nm a), Sg (Ac.to a), V.sl (1 : Nat) (List.map bR (Ac.dat a)), V.sl (1 : Nat) (List.map iR (Ac.pk a))],
      decide (Int.ofNat (List.length (List.map iR (Ac.pk a))) > (20 : Int)) = true] (by kernel_rfl)
    (by
      simp only [allP]
      and_intros <;> first
        | (simp [hx]; done)
        | (simp; omega))

theorem fwP3 (l : List Ac) (a : Ac) (i : Nat) (hx : l[i]? = some a) (hi : i < l.length) (hl : l.length ≤ 9223372036854775807) (g0 : ¬ 100 < a.dat.length) (g1 : ¬ 20 < a.nm.size) (g2 : ¬ 20 < a.to.size) (g3 : 20 < a.pk.length)  : CodeC Tryz.prog 0 47 fwB (fwS l i) .ret (fwT) := by
  exact CodeC.cast (by
    first
      | rfl) (fwP3_0 l a i hx hi hl g0 g1 g2 g3 )

theorem fwE_0 (l : List Ac) (i : Nat) (h : l.length ≤ i) : CodeC Tryz.prog 0 47 fwB (fwS l i) (Ex.exit (0 : Nat)) ({ env := [((0 : Nat), V.sl (6 : Nat) (List.map (fun a0 => [I (Ac.way a0), I (Ac.n a0), Sg (Ac.nm a0), Sg (Ac.to a0), V.sl (1 : Nat) (List.map bR (Ac.dat a0)), V.sl (1 : Nat) (List.map iR (Ac.pk a0))]) l)), ((3 : Nat), I (Int.ofNat i))], st := [], ids := [] }) :=
  runP hmix [.reg 2 [(3, [], some false)]] ⟨[0, 3], [], []⟩ [
      decide (Int.ofNat i < Int.ofNat (List.length (List.map (fun a0 => [I (Ac.way a0), I (Ac.n a0), Sg (Ac.nm a0), Sg (Ac.to a0), V.sl (1 : Nat) (List.map bR (Ac.dat a0)), V.sl (1 : Nat) (List.map iR (Ac.pk a0))]) l))) = false] (by kernel_rfl)
    (by
      simp only [allP]
      and_intros <;> first
        | (simp; omega))

theorem fwE (l : List Ac) (i : Nat) (h : l.length ≤ i)  : CodeC Tryz.prog 0 47 fwB (fwS l i) (.exit 0) (fwS l i) := by
  exact CodeC.cast (by
    first
      | rfl) (fwE_0 l i h )

theorem cFewA_0 (l : List Ac) (hL : LoopC Tryz.prog 0 47 fwB (fwS l 0) .ret (fwT)) : Contract Tryz.prog 5 [.sl 6 (l.map Ac.row)] [] (Bo false) ([]) :=
  vcP hmix [.cut ⟨[0, 3], [], []⟩ .ret fwT] [] [
      LoopC Tryz.prog (0 : Nat) (47 : Nat) fwB { env := [((0 : Nat), V.sl (6 : Nat) (List.map (fun a0 => [I (Ac.way a0), I (Ac.n a0), Sg (Ac.nm a0), Sg (Ac.to a0), V.sl (1 : Nat) (List.map bR (Ac.dat a0)), V.sl (1 : Nat) (List.map iR (Ac.pk a0))]) l)), ((3 : Nat), I (0 : Int))], st := [], ids := [] } Ex.ret { env := [((2 : Nat), Bo false)], st := [], ids := [] }] (by kernel_rfl)
    (by
      simp only [allP]
      and_intros <;> first
        | exact hL)

theorem cFewA (l : List Ac) (hL : LoopC Tryz.prog 0 47 fwB (fwS l 0) .ret (fwT)) : Contract Tryz.prog 5 [.sl 6 (l.map Ac.row)] [] (Bo false) [] := by
  exact Contract.cast (by
    first
      | rfl) (by
    first
      | rfl) (cFewA_0 l hL )

theorem cFewB_0 (l : List Ac) (i : Nat) (hL : LoopC Tryz.prog 0 47 fwB (fwS l 0) (.exit 0) (fwS l i)) : Contract Tryz.prog 5 [.sl 6 (l.map Ac.row)] [] (Bo (decide (Int.ofNat (List.length (List.map (fun a0 => [I (Ac.way a0), I (Ac.n a0), Sg (Ac.nm a0), Sg (Ac.to a0), V.sl (1 : Nat) (List.map bR (Ac.dat a0)), V.sl (1 : Nat) (List.map iR (Ac.pk a0))]) l)) ≤ (80 : Int)))) ([]) :=
  vcP hmix [.cut ⟨[0, 3], [], []⟩ (.exit 0) (fwS l i)] [] [
      LoopC Tryz.prog (0 : Nat) (47 : Nat) fwB { env := [((0 : Nat), V.sl (6 : Nat) (List.map (fun a0 => [I (Ac.way a0), I (Ac.n a0), Sg (Ac.nm a0), Sg (Ac.to a0), V.sl (1 : Nat) (List.map bR (Ac.dat a0)), V.sl (1 : Nat) (List.map iR (Ac.pk a0))]) l)), ((3 : Nat), I (0 : Int))], st := [], ids := [] } (Ex.exit (0 : Nat)) { env := [((0 : Nat), V.sl (6 : Nat) (List.map (fun a0 => [I (Ac.way a0), I (Ac.n a0), Sg (Ac.nm a0), Sg (Ac.to a0), V.sl (1 : Nat) (List.map bR (Ac.dat a0)), V.sl (1 : Nat) (List.map iR (Ac.pk a0))]) l)), ((3 : Nat), I (Int.ofNat i))], st := [], ids := [] }] (by kernel_rfl)
    (by
      simp only [allP]
      and_intros <;> first
        | exact hL)

theorem cFewB (l : List Ac) (i : Nat) (hL : LoopC Tryz.prog 0 47 fwB (fwS l 0) (.exit 0) (fwS l i)) : Contract Tryz.prog 5 [.sl 6 (l.map Ac.row)] [] (Bo (decide ((l.length : Int) ≤ 80))) [] := by
  exact Contract.cast (by
    first
      | (simp []; done)) (by
    first
      | rfl) (cFewB_0 l i hL )

def Ac.ok (a : Ac) : Prop := a.dat.length ≤ 100 ∧ a.nm.size ≤ 20 ∧ a.to.size ≤ 20 ∧ a.pk.length ≤ 20
theorem fwLoop (l : List Ac) (hl : l.length ≤ 9223372036854775807) : ∀ (m i : Nat), i + m = l.length → (LoopC Tryz.prog 0 47 fwB (fwS l i) .ret (fwT)) ∨ ((LoopC Tryz.prog 0 47 fwB (fwS l i) (.exit 0) (fwS l l.length)) ∧ ∀ (k : Nat) (a : Ac), i ≤ k → l[k]? = some a → a.ok)
  | 0, i, h => by
    have : i = l.length := by omega
    subst this
    refine .inr ⟨LoopC.last (fwE l _ (Nat.le_refl _)) (by simp), fun k a hk ha => ?_⟩
    have := (List.getElem?_eq_some_iff.1 ha).1
    omega
  | m + 1, i, h => by
    have hi : i < l.length := by omega
    have hx := List.getElem?_eq_getElem hi
    by_cases g0 : 100 < l[i].dat.length
    · exact .inl (LoopC.last (fwP0 l l[i] i hx hi hl g0) (by simp))
    by_cases g1 : 20 < l[i].nm.size
    · exact .inl (LoopC.last (fwP1 l l[i] i hx hi hl g0 g1) (by simp))
    by_cases g2 : 20 < l[i].to.size
    · exact .inl (LoopC.last (fwP2 l l[i] i hx hi hl g0 g1 g2) (by simp))
    by_cases g3 : 20 < l[i].pk.length
    · exact .inl (LoopC.last (fwP3 l l[i] i hx hi hl g0 g1 g2 g3) (by simp))
    have hr := fwG l l[i] i hx hi hl g0 g1 g2 g3
    rcases fwLoop l hl m (i + 1) (by omega) with h1 | ⟨h1, h2⟩
    · exact .inl (LoopC.next hr h1)
    · refine .inr ⟨LoopC.next hr h1, fun k a hk ha => ?_⟩
      by_cases e : k = i
      · subst e; rw [hx] at ha; cases ha; exact ⟨by omega, by omega, by omega, by omega⟩
      · exact h2 k a (by omega) ha
theorem cFew (l : List Ac) (hl : l.length ≤ 9223372036854775807) : ∃ b, Contract Tryz.prog 5 [.sl 6 (l.map Ac.row)] [] (Bo b) [] ∧ (b = true → l.length ≤ 80 ∧ ∀ a ∈ l, a.ok) := by
  rcases fwLoop l hl l.length 0 (by omega) with h | ⟨h1, h2⟩
  · exact ⟨false, cFewA l h, fun h => by cases h⟩
  · refine ⟨_, cFewB l _ h1, fun h => ⟨by simp only [decide_eq_true_eq] at h; omega, fun a ha => ?_⟩⟩
    obtain ⟨k, hk⟩ := List.getElem?_of_mem ha
    exact h2 k a (by omega) hk
theorem plG_0 (l : List Ac) (a : Ac) (n : ByteArray) (b : List UInt8) (k : Int) (d dd : Dv) (r rr : Rv) (e e2 : Int) (i : Nat) (hx : l[i]? = some a) (hi : i < l.length) (hl : l.length ≤ 1000000000) (h1 : Contract Tryz.prog 8 [.ptr 0 0 0 0, .val (.string a.nm), .sl 1 (a.dat.map bR)] [d.box 1, d.map] (I e) [some (dd.box 2), none, some dd.map]) (h2 : Contract Tryz.prog 9 [.ptr 0 0 0 0, .val (.string a.nm), .sl 1 (a.dat.map bR)] [r.box 1, r.arr] (I e2) [some (rr.box 2), none, some rr.arr]) : CodeC Tryz.prog 0 98 plB (plS l n b k d r i) (Ex.normal) ({ env := [((1 : Nat), V.sl (6 : Nat) (List.map (fun a0 => [I (Ac.way a0), I (Ac.n a0), Sg (Ac.nm a0), Sg (Ac.to a0), V.sl (1 : Nat) (List.map bR (Ac.dat a0)), V.sl (1 : Nat) (List.map iR (Ac.pk a0))]) l)), ((2 : Nat), Sg n), ((3 : Nat), V.sl (1 : Nat) (List.map bR b)), ((4 : Nat), I k), ((12 : Nat), V.ptr (802001 : Nat) (0 : Nat) (0 : Nat) (0 : Nat)), ((13 : Nat), V.ptr (1002001 : Nat) (0 : Nat) (0 : Nat) (0 : Nat)), ((14 : Nat), I (Int.ofNat (i + (1 : Nat))))], st := [((802001 : Nat), Obj.box [I (Dv.room dd), I (Dv.used dd), V.val (Value.int IntKind.u32 (bif Dv.nl dd then (0 : Int) else (1 : Int))), V.val (Value.int IntKind.i32 (0 : Int)), V.val (Value.int IntKind.u32 (0 : Int)), V.mref (901 : Nat), I (Dv.fuse dd)]), ((901 : Nat), Obj.nest (Nest.mp (Dv.nl dd) (mE (Dv.fs dd))) []), ((1002001 : Nat), Obj.box [I (Rv.room rr), I (Rv.fuse rr), V.own (903 : Nat)]), ((903 : Nat), Obj.arr (3 : Nat) (List.map fR (Rv.F rr)))], ids := [(802001 : Nat), (901 : Nat), (1002001 : Nat), (903 : Nat)] }) :=
  runP hmix [.reg 9 [(3, [], some true)], .reg 11 [(5, [.row (a.row)], none), (10, [.row (a.row)], none), (11, [.call [802001, 901] [] (I e) [some (dd.box 2), none, some dd.map]], none)], .reg 12 [(5, [.row (a.row)], none), (10, [.row (a.row)], none), (11, [.call [1002001, 903] [] (I e2) [some (rr.box 2), none, some rr.arr]], none)], .reg 10 [(1, [.be (I ((i + 1 : Nat) : Int))], none)]] ⟨[1, 2, 3, 4, 12, 13, 14], [(802001, 802001), (2212001, 901), (1002001, 1002001), (2412001, 903)], []⟩ [
      decide (Int.ofNat i < Int.ofNat (List.length (List.map (fun a0 => [I (Ac.way a0), I (Ac.n a0), Sg (Ac.nm a0), Sg (Ac.to a0), V.sl (1 : Nat) (List.map bR (Ac.dat a0)), V.sl (1 : Nat) (List.map iR (Ac.pk a0))]) l))) = true,
      (0 : Int) ≤ Int.ofNat i,
      Int.ofNat i < Int.ofNat (List.length (List.map (fun a0 => [I (Ac.way a0), I (Ac.n a0), Sg (Ac.nm a0), Sg (Ac.to a0), V.sl (1 : Nat) (List.map bR (Ac.dat a0)), V.sl (1 : Nat) (List.map iR (Ac.pk a0))]) l)),
      (List.map (fun a0 => [I (Ac.way a0), I (Ac.n a0), Sg (Ac.nm a0), Sg (Ac.to a0), V.sl (1 : Nat) (List.map bR (Ac.dat a0)), V.sl (1 : Nat) (List.map iR (Ac.pk a0))]) l)[i]? = some [I (Ac.way a), I (Ac.n a), Sg (Ac.nm a), Sg (Ac.to a), V.sl (1 : Nat) (List.map bR (Ac.dat a)), V.sl (1 : Nat) (List.map iR (Ac.pk a))],
      (0 : Int) ≤ Int.ofNat i,
      Int.ofNat i < Int.ofNat (List.length (List.map (fun a0 => [I (Ac.way a0), I (Ac.n a0), Sg (Ac.nm a0), Sg (Ac.to a0), V.sl (1 : Nat) (List.map bR (Ac.dat a0)), V.sl (1 : Nat) (List.map iR (Ac.pk a0))]) l)),
      (List.map (fun a0 => [I (Ac.way a0), I (Ac.n a0), Sg (Ac.nm a0), Sg (Ac.to a0), V.sl (1 : Nat) (List.map bR (Ac.dat a0)), V.sl (1 : Nat) (List.map iR (Ac.pk a0))]) l)[i]? = some [I (Ac.way a), I (Ac.n a), Sg (Ac.nm a), Sg (Ac.to a), V.sl (1 : Nat) (List.map bR (Ac.dat a)), V.sl (1 : Nat) (List.map iR (Ac.pk a))],
      Contract Tryz.prog (8 : Nat) [V.ptr (0 : Nat) (0 : Nat) (0 : Nat) (0 : Nat), Sg (Ac.nm a), V.sl (1 : Nat) (List.map bR (Ac.dat a))] [Obj.box [I (Dv.room d), I (Dv.used d), V.val (Value.int IntKind.u32 (bif Dv.nl d then (0 : Int) else (1 : Int))), V.val (Value.int IntKind.i32 (0 : Int)), V.val (Value.int IntKind.u32 (0 : Int)), V.mref (1 : Nat), I (Dv.fuse d)], Obj.nest (Nest.mp (Dv.nl d) (mE (Dv.fs d))) []] (I e) [some (Obj.box [I (Dv.room dd), I (Dv.used dd), V.val (Value.int IntKind.u32 (bif Dv.nl dd then (0 : Int) else (1 : Int))), V.val (Value.int IntKind.i32 (0 : Int)), V.val (Value.int IntKind.u32 (0 : Int)), V.mref (2 : Nat), I (Dv.fuse dd)]), none, some (Obj.nest (Nest.mp (Dv.nl dd) (mE (Dv.fs dd))) [])],
      (0 : Int) ≤ Int.ofNat i,
      Int.ofNat i < Int.ofNat (List.length (List.map (fun a0 => [I (Ac.way a0), I (Ac.n a0), Sg (Ac.nm a0), Sg (Ac.to a0), V.sl (1 : Nat) (List.map bR (Ac.dat a0)), V.sl (1 : Nat) (List.map iR (Ac.pk a0))]) l)),
      (List.map (fun a0 => [I (Ac.way a0), I (Ac.n a0), Sg (Ac.nm a0), Sg (Ac.to a0), V.sl (1 : Nat) (List.map bR (Ac.dat a0)), V.sl (1 : Nat) (List.map iR (Ac.pk a0))]) l)[i]? = some [I (Ac.way a), I (Ac.n a), Sg (Ac.nm a), Sg (Ac.to a), V.sl (1 : Nat) (List.map bR (Ac.dat a)), V.sl (1 : Nat) (List.map iR (Ac.pk a))],
      (0 : Int) ≤ Int.ofNat i,
      Int.ofNat i < Int.ofNat (List.length (List.map (fun a0 => [I (Ac.way a0), I (Ac.n a0), Sg (Ac.nm a0), Sg (Ac.to a0), V.sl (1 : Nat) (List.map bR (Ac.dat a0)), V.sl (1 : Nat) (List.map iR (Ac.pk a0))]) l)),
      (List.map (fun a0 => [I (Ac.way a0), I (Ac.n a0), Sg (Ac.nm a0), Sg (Ac.to a0), V.sl (1 : Nat) (List.map bR (Ac.dat a0)), V.sl (1 : Nat) (List.map iR (Ac.pk a0))]) l)[i]? = some [I (Ac.way a), I (Ac.n a), Sg (Ac.nm a), Sg (Ac.to a), V.sl (1 : Nat) (List.map bR (Ac.dat a)), V.sl (1 : Nat) (List.map iR (Ac.pk a))],
      Contract Tryz.prog (9 : Nat) [V.ptr (0 : Nat) (0 : Nat) (0 : Nat) (0 : Nat), Sg (Ac.nm a), V.sl (1 : Nat) (List.map bR (Ac.dat a))] [Obj.box [I (Rv.room r), I (Rv.fuse r), V.own (1 : Nat)], Obj.arr (3 : Nat) (List.map fR (Rv.F r))] (I e2) [some (Obj.box [I (Rv.room rr), I (Rv.fuse rr), V.own (2 : Nat)]), none, some (Obj.arr (3 : Nat) (List.map fR (Rv.F rr)))],
      IntKind.wrap IntKind.i64 (Int.ofNat (i + (1 : Nat))) = Int.ofNat (i + (1 : Nat))] (by kernel_rfl)
    (by
      simp only [allP]
      and_intros <;> first
        | exact h1
        | exact h2
        | (simp [hx]; done)
        | exact i64_small (by simp; omega)
        | (simp; omega))

theorem plG (l : List Ac) (a : Ac) (n : ByteArray) (b : List UInt8) (k : Int) (d dd : Dv) (r rr : Rv) (e e2 : Int) (i : Nat) (hx : l[i]? = some a) (hi : i < l.length) (hl : l.length ≤ 1000000000) (h1 : Contract Tryz.prog 8 [.ptr 0 0 0 0, .val (.string a.nm), .sl 1 (a.dat.map bR)] [d.box 1, d.map] (I e) [some (dd.box 2), none, some dd.map]) (h2 : Contract Tryz.prog 9 [.ptr 0 0 0 0, .val (.string a.nm), .sl 1 (a.dat.map bR)] [r.box 1, r.arr] (I e2) [some (rr.box 2), none, some rr.arr])  : CodeC Tryz.prog 0 98 plB (plS l n b k d r i) .normal (plS l n b k dd rr (i + 1)) := by
  exact CodeC.cast (by
    first
      | rfl) (plG_0 l a n b k d dd r rr e e2 i hx hi hl h1 h2 )

theorem plE_0 (l : List Ac) (n : ByteArray) (b : List UInt8) (k : Int) (d : Dv) (r : Rv) (i : Nat) (h : l.length ≤ i) : CodeC Tryz.prog 0 98 plB (plS l n b k d r i) (Ex.exit (0 : Nat)) ({ env := [((1 : Nat), V.sl (6 : Nat) (List.map (fun a0 => [I (Ac.way a0), I (Ac.n a0), Sg (Ac.nm a0), Sg (Ac.to a0), V.sl (1 : Nat) (List.map bR (Ac.dat a0)), V.sl (1 : Nat) (List.map iR (Ac.pk a0))]) l)), ((2 : Nat), Sg n), ((3 : Nat), V.sl (1 : Nat) (List.map bR b)), ((4 : Nat), I k), ((12 : Nat), V.ptr (802001 : Nat) (0 : Nat) (0 : Nat) (0 : Nat)), ((13 : Nat), V.ptr (1002001 : Nat) (0 : Nat) (0 : Nat) (0 : Nat)), ((14 : Nat), I (Int.ofNat i))], st := [((802001 : Nat), Obj.box [I (Dv.room d), I (Dv.used d), V.val (Value.int IntKind.u32 (bif Dv.nl d then (0 : Int) else (1 : Int))), V.val (Value.int IntKind.i32 (0 : Int)), V.val (Value.int IntKind.u32 (0 : Int)), V.mref (901 : Nat), I (Dv.fuse d)]), ((901 : Nat), Obj.nest (Nest.mp (Dv.nl d) (mE (Dv.fs d))) []), ((1002001 : Nat), Obj.box [I (Rv.room r), I (Rv.fuse r), V.own (903 : Nat)]), ((903 : Nat), Obj.arr (3 : Nat) (List.map fR (Rv.F r)))], ids := [(802001 : Nat), (901 : Nat), (1002001 : Nat), (903 : Nat)] }) :=
  runP hmix [.reg 9 [(3, [], some false)]] ⟨[1, 2, 3, 4, 12, 13, 14], [(802001, 802001), (901, 901), (1002001, 1002001), (903, 903)], []⟩ [
      decide (Int.ofNat i < Int.ofNat (List.length (List.map (fun a0 => [I (Ac.way a0), I (Ac.n a0), Sg (Ac.nm a0), Sg (Ac.to a0), V.sl (1 : Nat) (List.map bR (Ac.dat a0)), V.sl (1 : Nat) (List.map iR (Ac.pk a0))]) l))) = false] (by kernel_rfl)
    (by
      simp only [allP]
      and_intros <;> first
        | (simp; omega))

theorem plE (l : List Ac) (n : ByteArray) (b : List UInt8) (k : Int) (d : Dv) (r : Rv) (i : Nat) (h : l.length ≤ i)  : CodeC Tryz.prog 0 98 plB (plS l n b k d r i) (.exit 0) (plS l n b k d r i) := by
  exact CodeC.cast (by
    first
      | rfl) (plE_0 l n b k d r i h )

/-- How big a device is. -/
structure Sz (d : Dv) (i : Nat) : Prop where
  ok : Ok d
  used : d.used ≤ 100 * i
  few : d.fs.length ≤ i
theorem sz_app {d : Dv} {i : Nat} (s : ByteArray) (b : List UInt8) (h : Sz d i) (hi : i ≤ 80) (hb : b.length ≤ 100) (hs : s.size ≤ 20) : tot d.fs + b.length ≤ 1000000000 ∧ Sz (d.append s b).1 (i + 1) := by
  have h1 := h.ok.used
  have h2 := h.used
  have h3 := h.few
  have ht : tot d.fs + b.length ≤ 1000000000 := by omega
  refine ⟨ht, append_ok h.ok ht (Nat.le_trans hs (by decide)) (by omega), ?_, ?_⟩
  · unfold Dv.append
    split
    · simp only; omega
    split
    · simp only; omega
    split
    · simp only; omega
    · simp only [Dv.went]; omega
  · unfold Dv.append
    split
    · simp only; omega
    split
    · simp only; omega
    split
    · simp only; omega
    · simp only [Dv.went, length_put]; split <;> omega
theorem sz_fuse {d : Dv} {i : Nat} (n : Int) (hn : n ≤ 9223372036854775807) (h : Sz d i) : Sz {d with fuse := if (-1 : Int) > n then -1 else n} (i + 1) := by
  have h2 := h.used
  have h3 := h.few
  refine ⟨⟨h.ok.used, h.ok.uniq, h.ok.sure, h.ok.nl, ?_, h.ok.room, h.ok.names, h.ok.tot, h.ok.few⟩, by simp only; omega, by simp only; omega⟩
  simp only; split <;> omega
theorem plLoop (l : List Ac) (n : ByteArray) (b : List UInt8) (k : Int) (h80 : l.length ≤ 80) (hok : ∀ a ∈ l, a.ok) : ∀ (m i : Nat) (d : Dv) (r : Rv), i + m = l.length → Sz d i → Rel d r →
    ∃ d' r', LoopC Tryz.prog 0 98 plB (plS l n b k d r i) (.exit 0) (plS l n b k d' r' l.length) ∧ Sz d' l.length ∧ Rel d' r'
  | 0, i, d, r, h, hd, hr => by
    have : i = l.length := by omega
    subst this
    exact ⟨d, r, LoopC.last (plE l n b k d r _ (Nat.le_refl _)) (by simp), hd, hr⟩
  | m + 1, i, d, r, h, hd, hr => by
    have hi : i < l.length := by omega
    have hx := List.getElem?_eq_getElem hi
    obtain ⟨a1, a2, a3, a4⟩ := hok _ (List.getElem_mem hi)
    obtain ⟨k1, k2⟩ := sz_app l[i].nm l[i].dat hd (by omega) a1 a2
    obtain ⟨r', c1, c2⟩ := relAppend l[i].nm l[i].dat hd.ok hr k1 (by have := hd.few; omega)
    obtain ⟨d'', r'', e1, e2⟩ := plLoop l n b k h80 hok m (i + 1) _ r' (by omega) k2 c2
    exact ⟨d'', r'', LoopC.next (plG l l[i] n b k d _ r r' _ _ i hx hi (by omega) (cAppend d l[i].nm l[i].dat hd.ok k1) c1) e1, e2⟩
end Go.Proofs.YtinfjnnffmlpmaaGreatDoor

