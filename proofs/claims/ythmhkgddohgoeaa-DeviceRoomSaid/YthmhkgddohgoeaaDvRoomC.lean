/- DeviceRoom: what fits just fits, that one byte more does not, and that what is deleted makes room. -/
import Derived.Test.YthmhkgddohgoeaaDvRoomP4
import Derived.Test.YthmhkgddohgoeaaRows
namespace Go.Proofs.Ythmhkgddohgoeaa
open E
set_option maxRecDepth 100000
set_option linter.unusedVariables false
set_option linter.unusedSimpArgs false

def roS (R : Int) (sz : List Int) (d : Dv) (u : Int) (i : Nat) : SL := ⟨[(0, I R), (1, .sl 1 (sz.map iR)), (6, .ptr 802001 0 0 0), (7, .val (.string ⟨#[97, 98, 99, 100, 101, 102, 103, 104, 105, 106, 107, 108, 109, 110, 111, 112, 113, 114, 115, 116]⟩)), (8, I u), (9, I i)], [(802001, d.box 901), (901, d.map)], [802001, 901]⟩
def rdS (l : Fs) (d : Dv) (i : Nat) : SL := ⟨[(6, .ptr 802001 0 0 0), (12, .sl 3 (l.map fR)), (13, I i)], [(802001, d.box 901), (901, d.map)], [802001, 901]⟩
def zs (n : Nat) : List UInt8 := List.replicate n 0
def nmI (i : Nat) : ByteArray := ⟨#[UInt8.ofNat (97 + i)]⟩
noncomputable def roB : Code := codeAt Try.prog 4 [true, true, true, true, true, true, true, false, true, false, false]

noncomputable def rdB : Code := codeAt Try.prog 4 [true, true, true, true, true, true, true, true, true, true, false, true, false, false]

theorem ro_nm {i : Nat} (h : i < 20) : ByteArray.extract ⟨#[97, 98, 99, 100, 101, 102, 103, 104, 105, 106, 107, 108, 109, 110, 111, 112, 113, 114, 115, 116]⟩ (Int.toNat (Int.ofNat i)) (Int.toNat (Int.ofNat (i + 1))) = nmI i := by
  have : ∀ i, i < 20 → ByteArray.extract ⟨#[97, 98, 99, 100, 101, 102, 103, 104, 105, 106, 107, 108, 109, 110, 111, 112, 113, 114, 115, 116]⟩ i (i + 1) = nmI i := by decide
  exact this i h
theorem zs_map (n : Nat) : List.replicate (Int.toNat (Int.ofNat n)) [V.val (.int .u8 0)] = (zs n).map bR := by simp [zs, bR, intRow]
theorem roN {R u : Int} {n : Nat} (hn : R - u = n) (h1 : 0 ≤ R) (h2 : R ≤ 2000) (hu : 0 ≤ u) : IntKind.i64.wrap (R + -u) = Int.ofNat n := by
  rw [i64_small (by omega)]; simp only [Int.ofNat_eq_natCast]; omega
theorem roN1 {R u : Int} {n n1 : Nat} (hn : R - u = n) (hn1 : n1 = n + 1) (h1 : 0 ≤ R) (h2 : R ≤ 2000) (hu : 0 ≤ u) : IntKind.i64.wrap (Int.ofNat n + 1) = Int.ofNat n1 := by
  rw [i64_small (by simp only [Int.ofNat_eq_natCast]; omega)]; simp only [Int.ofNat_eq_natCast]; omega
theorem zs_len (n : Nat) : (zs n).length = n := by simp [zs]
theorem roA_0 (R : Int) (sz : List Int) (d d2 : Dv) (u x : Int) (n i : Nat) (hx : sz[i]? = some x) (hi : i < sz.length) (h20 : sz.length ≤ 20) (hn : n ≤ 255) (hw : IntKind.i64.wrap (Int.ofNat ((x % 18446744073709551616).toNat &&& 255)) = (n : Int)) (hu : 0 ≤ u) (hR : u ≤ R) (hR2 : R ≤ 2000) (hf : u + n ≤ R) (hd : d2.used = (u + n)) (h1 : Contract Try.prog 10 [.ptr 0 0 0 0, .val (.string (nmI i)), .sl 1 ((zs n).map bR)] [d.box 1, d.map] (I 0) [some (d2.box 2), none, some d2.map]) : CodeC Try.prog 0 150 roB (roS R sz d u i) (Ex.normal) ({ env := [((0 : Nat), I R), ((1 : Nat), V.sl (1 : Nat) (List.map iR sz)), ((6 : Nat), V.ptr (802001 : Nat) (0 : Nat) (0 : Nat) (0 : Nat)), ((7 : Nat), Sg { data := { toList := [(97 : UInt8), (98 : UInt8), (99 : UInt8), (100 : UInt8), (101 : UInt8), (102 : UInt8), (103 : UInt8), (104 : UInt8), (105 : UInt8), (106 : UInt8), (107 : UInt8), (108 : UInt8), (109 : UInt8), (110 : UInt8), (111 : UInt8), (112 : UInt8), (113 : UInt8), (114 : UInt8), (115 : UInt8), (116 : UInt8)] } }), ((8 : Nat), I (u + Int.ofNat n)), ((9 : Nat), I (Int.ofNat (i + (1 : Nat))))], st := [((802001 : Nat), Obj.box [I (Dv.room d2), I (Dv.used d2), V.val (Value.int IntKind.u32 (bif Dv.nl d2 then (0 : Int) else (1 : Int))), V.val (Value.int IntKind.i32 (0 : Int)), V.val (Value.int IntKind.u32 (0 : Int)), V.mref (901 : Nat), I (Dv.fuse d2)]), ((901 : Nat), Obj.nest (Nest.mp (Dv.nl d2) (mE (Dv.fs d2))) [])], ids := [(802001 : Nat), (901 : Nat)] }) :=
  runP hmix [.reg 10 [(3, [], some true)], .reg 12 [(3, [.row (iR x)], none), (4, [.be (I (n : Int))], none)], .reg 13 [(4, [.be (I ((i + 1 : Nat) : Int))], none), (5, [.be (.val (.string (nmI i)))], none), (7, [.beO ((zs n).map bR)], none), (8, [.call [802001, 901] [] (I 0) [some (d2.box 2), none, some d2.map]], none)], .reg 14 [(1, [.call [] [] (I 0) []], none), (5, [.be (I (u + n))], none), (7, [], some true), (11, [.call [] [] (I 0) []], none), (15, [.call [] [] (I 0) []], none)], .reg 16 [(1, [.call [] [] (I 0) []], none)], .reg 17 [(2, [.be (I (u + n))], none)], .reg 18 [(1, [.call [802001, 2609001] [] (I d2.used) [some (d2.box 1), some d2.map]], none), (3, [], some false)], .reg 11 [(1, [.be (I ((i + 1 : Nat) : Int))], none)]] ⟨[0, 1, 6, 7, 8, 9], [(802001, 802001), (2609001, 901)], []⟩ [
      decide (Int.ofNat i < Int.ofNat (List.length (List.map iR sz))) = true,
      (0 : Int) ≤ Int.ofNat i,
      Int.ofNat i < Int.ofNat (List.length (List.map iR sz)),
      (List.map iR sz)[i]? = some (iR x),
      IntKind.wrap IntKind.i64 (Int.ofNat (((Int.toNat (x % (18446744073709551616 : Int))) &&& (255 : Nat)))) = Int.ofNat n,
      IntKind.wrap IntKind.i64 (Int.ofNat (i + (1 : Nat))) = Int.ofNat (i + (1 : Nat)),
      (0 : Int) ≤ Int.ofNat i,
      Int.ofNat i ≤ Int.ofNat (i + (1 : Nat)),
      Int.ofNat (i + (1 : Nat)) ≤ (20 : Int),
      { data := Array.foldl (fun xs0 v1 => { toList := List.concat (Array.toList xs0) v1 }) (Array.foldl (fun xs0 v1 => { toList := List.concat (Array.toList xs0) v1 }) { toList := [] } (Array.extract { toList := [(97 : UInt8), (98 : UInt8), (99 : UInt8), (100 : UInt8), (101 : UInt8), (102 : UInt8), (103 : UInt8), (104 : UInt8), (105 : UInt8), (106 : UInt8), (107 : UInt8), (108 : UInt8), (109 : UInt8), (110 : UInt8), (111 : UInt8), (112 : UInt8), (113 : UInt8), (114 : UInt8), (115 : UInt8), (116 : UInt8)] } i (i + (Int.toNat (Int.ofNat (i + (1 : Nat))) - i)))) (Array.extract { toList := [] } ((0 : Nat) + min (Int.toNat (Int.ofNat (i + (1 : Nat))) - i) ((20 : Nat) - i)) (0 : Nat)) } = nmI i,
      Int.ofNat n = Int.ofNat n,
      (0 : Int) ≤ Int.ofNat n,
      n * (1 : Nat) ≤ (140737488355328 : Nat),
      List.replicate n [V.val (Value.int IntKind.u8 (0 : Int))] = List.map bR (zs n),
      Contract Try.prog (10 : Nat) [V.ptr (0 : Nat) (0 : Nat) (0 : Nat) (0 : Nat), Sg (nmI i), V.sl (1 : Nat) (List.map bR (zs n))] [Obj.box [I (Dv.room d), I (Dv.used d), V.val (Value.int IntKind.u32 (bif Dv.nl d then (0 : Int) else (1 : Int))), V.val (Value.int IntKind.i32 (0 : Int)), V.val (Value.int IntKind.u32 (0 : Int)), V.mref (1 : Nat), I (Dv.fuse d)], Obj.nest (Nest.mp (Dv.nl d) (mE (Dv.fs d))) []] (I (0 : Int)) [some (Obj.box [I (Dv.room d2), I (Dv.used d2), V.val (Value.int IntKind.u32 (bif Dv.nl d2 then (0 : Int) else (1 : Int))), V.val (Value.int IntKind.i32 (0 : Int)), V.val (Value.int IntKind.u32 (0 : Int)), V.mref (2 : Nat), I (Dv.fuse d2)]), none, some (Obj.nest (Nest.mp (Dv.nl d2) (mE (Dv.fs d2))) [])],
      true = true,
      true = true,
      ∀ (c0 : Inn), List.Mem c0 (List.map (fun x1 => Prod.snd x1) (mE (Dv.fs d2))) → Inn.flat c0,
      Contract Try.prog (13 : Nat) [I (0 : Int)] [] (I (0 : Int)) [],
      IntKind.wrap IntKind.i64 (u + Int.ofNat n) = u + Int.ofNat n,
      decide (u + Int.ofNat n ≤ R) = true,
      Contract Try.prog (13 : Nat) [I (0 : Int)] [] (I (0 : Int)) [],
      Contract Try.prog (13 : Nat) [I (0 : Int)] [] (I (0 : Int)) [],
      IntKind.wrap IntKind.i64 (u + Int.ofNat n) = u + Int.ofNat n,
      Contract Try.prog (14 : Nat) [V.ptr (0 : Nat) (0 : Nat) (0 : Nat) (0 : Nat)] [Obj.box [I (Dv.room d2), I (Dv.used d2), V.val (Value.int IntKind.u32 (bif Dv.nl d2 then (0 : Int) else (1 : Int))), V.val (Value.int IntKind.i32 (0 : Int)), V.val (Value.int IntKind.u32 (0 : Int)), V.mref (1 : Nat), I (Dv.fuse d2)], Obj.nest (Nest.mp (Dv.nl d2) (mE (Dv.fs d2))) []] (I (Dv.used d2)) [some (Obj.box [I (Dv.room d2), I (Dv.used d2), V.val (Value.int IntKind.u32 (bif Dv.nl d2 then (0 : Int) else (1 : Int))), V.val (Value.int IntKind.i32 (0 : Int)), V.val (Value.int IntKind.u32 (0 : Int)), V.mref (1 : Nat), I (Dv.fuse d2)]), some (Obj.nest (Nest.mp (Dv.nl d2) (mE (Dv.fs d2))) [])],
      (Dv.used d2 != u + Int.ofNat n) = false,
      IntKind.wrap IntKind.i64 (Int.ofNat (i + (1 : Nat))) = Int.ofNat (i + (1 : Nat))] (by kernel_rfl)
    (by
      simp only [allP]
      and_intros <;> first
        | omega
        | exact h1
        | exact mE_flat _
        | exact cUsed d2
        | exact cNum 0
        | exact ro_nm (by omega)
        | exact zs_map n
        | (simp [hx]; done)
        | (simp [hd]; done)
        | exact i64_small (by simp; omega)
        | (simp; omega))

theorem roA (R : Int) (sz : List Int) (d d2 : Dv) (u x : Int) (n i : Nat) (hx : sz[i]? = some x) (hi : i < sz.length) (h20 : sz.length ≤ 20) (hn : n ≤ 255) (hw : IntKind.i64.wrap (Int.ofNat ((x % 18446744073709551616).toNat &&& 255)) = (n : Int)) (hu : 0 ≤ u) (hR : u ≤ R) (hR2 : R ≤ 2000) (hf : u + n ≤ R) (hd : d2.used = (u + n)) (h1 : Contract Try.prog 10 [.ptr 0 0 0 0, .val (.string (nmI i)), .sl 1 ((zs n).map bR)] [d.box 1, d.map] (I 0) [some (d2.box 2), none, some d2.map])  : CodeC Try.prog 0 150 roB (roS R sz d u i) .normal (roS R sz d2 (u + n) (i + 1)) := by
  exact CodeC.cast (by
    first
      | rfl) (roA_0 R sz d d2 u x n i hx hi h20 hn hw hu hR hR2 hf hd h1 )

theorem roC_0 (R : Int) (sz : List Int) (d d2 : Dv) (u x : Int) (n i : Nat) (hx : sz[i]? = some x) (hi : i < sz.length) (h20 : sz.length ≤ 20) (hn : n ≤ 255) (hw : IntKind.i64.wrap (Int.ofNat ((x % 18446744073709551616).toNat &&& 255)) = (n : Int)) (hu : 0 ≤ u) (hR : u ≤ R) (hR2 : R ≤ 2000) (hf : R < u + n) (hd : d2.used = u) (h1 : Contract Try.prog 10 [.ptr 0 0 0 0, .val (.string (nmI i)), .sl 1 ((zs n).map bR)] [d.box 1, d.map] (I 3) [some (d2.box 2), none, some d2.map]) : CodeC Try.prog 0 150 roB (roS R sz d u i) (Ex.normal) ({ env := [((0 : Nat), I R), ((1 : Nat), V.sl (1 : Nat) (List.map iR sz)), ((6 : Nat), V.ptr (802001 : Nat) (0 : Nat) (0 : Nat) (0 : Nat)), ((7 : Nat), Sg { data := { toList := [(97 : UInt8), (98 : UInt8), (99 : UInt8), (100 : UInt8), (101 : UInt8), (102 : UInt8), (103 : UInt8), (104 : UInt8), (105 : UInt8), (106 : UInt8), (107 : UInt8), (108 : UInt8), (109 : UInt8), (110 : UInt8), (111 : UInt8), (112 : UInt8), (113 : UInt8), (114 : UInt8), (115 : UInt8), (116 : UInt8)] } }), ((8 : Nat), I u), ((9 : Nat), I (Int.ofNat (i + (1 : Nat))))], st := [((802001 : Nat), Obj.box [I (Dv.room d2), I (Dv.used d2), V.val (Value.int IntKind.u32 (bif Dv.nl d2 then (0 : Int) else (1 : Int))), V.val (Value.int IntKind.i32 (0 : Int)), V.val (Value.int IntKind.u32 (0 : Int)), V.mref (901 : Nat), I (Dv.fuse d2)]), ((901 : Nat), Obj.nest (Nest.mp (Dv.nl d2) (mE (Dv.fs d2))) [])], ids := [(802001 : Nat), (901 : Nat)] }) :=
  runP hmix [.reg 10 [(3, [], some true)], .reg 12 [(3, [.row (iR x)], none), (4, [.be (I (n : Int))], none)], .reg 13 [(4, [.be (I ((i + 1 : Nat) : Int))], none), (5, [.be (.val (.string (nmI i)))], none), (7, [.beO ((zs n).map bR)], none), (8, [.call [802001, 901] [] (I 3) [some (d2.box 2), none, some d2.map]], none)], .reg 14 [(1, [.call [] [] (I 3) []], none), (5, [.be (I (u + n))], none), (7, [], some false), (11, [.call [] [] (I 3) []], none), (15, [.call [] [] (I 3) []], none)], .reg 16 [(1, [.call [] [] (I 3) []], none)], .reg 18 [(1, [.call [802001, 2609001] [] (I d2.used) [some (d2.box 1), some d2.map]], none), (3, [], some false)], .reg 11 [(1, [.be (I ((i + 1 : Nat) : Int))], none)]] ⟨[0, 1, 6, 7, 8, 9], [(802001, 802001), (2609001, 901)], []⟩ [
      decide (Int.ofNat i < Int.ofNat (List.length (List.map iR sz))) = true,
      (0 : Int) ≤ Int.ofNat i,
      Int.ofNat i < Int.ofNat (List.length (List.map iR sz)),
      (List.map iR sz)[i]? = some (iR x),
      IntKind.wrap IntKind.i64 (Int.ofNat (((Int.toNat (x % (18446744073709551616 : Int))) &&& (255 : Nat)))) = Int.ofNat n,
      IntKind.wrap IntKind.i64 (Int.ofNat (i + (1 : Nat))) = Int.ofNat (i + (1 : Nat)),
      (0 : Int) ≤ Int.ofNat i,
      Int.ofNat i ≤ Int.ofNat (i + (1 : Nat)),
      Int.ofNat (i + (1 : Nat)) ≤ (20 : Int),
      { data := Array.foldl (fun xs0 v1 => { toList := List.concat (Array.toList xs0) v1 }) (Array.foldl (fun xs0 v1 => { toList := List.concat (Array.toList xs0) v1 }) { toList := [] } (Array.extract { toList := [(97 : UInt8), (98 : UInt8), (99 : UInt8), (100 : UInt8), (101 : UInt8), (102 : UInt8), (103 : UInt8), (104 : UInt8), (105 : UInt8), (106 : UInt8), (107 : UInt8), (108 : UInt8), (109 : UInt8), (110 : UInt8), (111 : UInt8), (112 : UInt8), (113 : UInt8), (114 : UInt8), (115 : UInt8), (116 : UInt8)] } i (i + (Int.toNat (Int.ofNat (i + (1 : Nat))) - i)))) (Array.extract { toList := [] } ((0 : Nat) + min (Int.toNat (Int.ofNat (i + (1 : Nat))) - i) ((20 : Nat) - i)) (0 : Nat)) } = nmI i,
      Int.ofNat n = Int.ofNat n,
      (0 : Int) ≤ Int.ofNat n,
      n * (1 : Nat) ≤ (140737488355328 : Nat),
      List.replicate n [V.val (Value.int IntKind.u8 (0 : Int))] = List.map bR (zs n),
      Contract Try.prog (10 : Nat) [V.ptr (0 : Nat) (0 : Nat) (0 : Nat) (0 : Nat), Sg (nmI i), V.sl (1 : Nat) (List.map bR (zs n))] [Obj.box [I (Dv.room d), I (Dv.used d), V.val (Value.int IntKind.u32 (bif Dv.nl d then (0 : Int) else (1 : Int))), V.val (Value.int IntKind.i32 (0 : Int)), V.val (Value.int IntKind.u32 (0 : Int)), V.mref (1 : Nat), I (Dv.fuse d)], Obj.nest (Nest.mp (Dv.nl d) (mE (Dv.fs d))) []] (I (3 : Int)) [some (Obj.box [I (Dv.room d2), I (Dv.used d2), V.val (Value.int IntKind.u32 (bif Dv.nl d2 then (0 : Int) else (1 : Int))), V.val (Value.int IntKind.i32 (0 : Int)), V.val (Value.int IntKind.u32 (0 : Int)), V.mref (2 : Nat), I (Dv.fuse d2)]), none, some (Obj.nest (Nest.mp (Dv.nl d2) (mE (Dv.fs d2))) [])],
      true = true,
      true = true,
      ∀ (c0 : Inn), List.Mem c0 (List.map (fun x1 => Prod.snd x1) (mE (Dv.fs d2))) → Inn.flat c0,
      Contract Try.prog (13 : Nat) [I (3 : Int)] [] (I (3 : Int)) [],
      IntKind.wrap IntKind.i64 (u + Int.ofNat n) = u + Int.ofNat n,
      decide (u + Int.ofNat n ≤ R) = false,
      Contract Try.prog (13 : Nat) [I (3 : Int)] [] (I (3 : Int)) [],
      Contract Try.prog (13 : Nat) [I (3 : Int)] [] (I (3 : Int)) [],
      Contract Try.prog (13 : Nat) [I (3 : Int)] [] (I (3 : Int)) [],
      Contract Try.prog (14 : Nat) [V.ptr (0 : Nat) (0 : Nat) (0 : Nat) (0 : Nat)] [Obj.box [I (Dv.room d2), I (Dv.used d2), V.val (Value.int IntKind.u32 (bif Dv.nl d2 then (0 : Int) else (1 : Int))), V.val (Value.int IntKind.i32 (0 : Int)), V.val (Value.int IntKind.u32 (0 : Int)), V.mref (1 : Nat), I (Dv.fuse d2)], Obj.nest (Nest.mp (Dv.nl d2) (mE (Dv.fs d2))) []] (I (Dv.used d2)) [some (Obj.box [I (Dv.room d2), I (Dv.used d2), V.val (Value.int IntKind.u32 (bif Dv.nl d2 then (0 : Int) else (1 : Int))), V.val (Value.int IntKind.i32 (0 : Int)), V.val (Value.int IntKind.u32 (0 : Int)), V.mref (1 : Nat), I (Dv.fuse d2)]), some (Obj.nest (Nest.mp (Dv.nl d2) (mE (Dv.fs d2))) [])],
      (Dv.used d2 != u) = false,
      IntKind.wrap IntKind.i64 (Int.ofNat (i + (1 : Nat))) = Int.ofNat (i + (1 : Nat))] (by kernel_rfl)
    (by
      simp only [allP]
      and_intros <;> first
        | omega
        | exact h1
        | exact mE_flat _
        | exact cUsed d2
        | exact cNum 3
        | exact ro_nm (by omega)
        | exact zs_map n
        | (simp [hx]; done)
        | (simp [hd]; done)
        | exact i64_small (by simp; omega)
        | (simp; omega))

theorem roC (R : Int) (sz : List Int) (d d2 : Dv) (u x : Int) (n i : Nat) (hx : sz[i]? = some x) (hi : i < sz.length) (h20 : sz.length ≤ 20) (hn : n ≤ 255) (hw : IntKind.i64.wrap (Int.ofNat ((x % 18446744073709551616).toNat &&& 255)) = (n : Int)) (hu : 0 ≤ u) (hR : u ≤ R) (hR2 : R ≤ 2000) (hf : R < u + n) (hd : d2.used = u) (h1 : Contract Try.prog 10 [.ptr 0 0 0 0, .val (.string (nmI i)), .sl 1 ((zs n).map bR)] [d.box 1, d.map] (I 3) [some (d2.box 2), none, some d2.map])  : CodeC Try.prog 0 150 roB (roS R sz d u i) .normal (roS R sz d2 u (i + 1)) := by
  exact CodeC.cast (by
    first
      | rfl) (roC_0 R sz d d2 u x n i hx hi h20 hn hw hu hR hR2 hf hd h1 )

theorem roE_0 (R : Int) (sz : List Int) (d : Dv) (u : Int) (i : Nat) (h : sz.length ≤ i) : CodeC Try.prog 0 150 roB (roS R sz d u i) (Ex.exit (0 : Nat)) ({ env := [((0 : Nat), I R), ((1 : Nat), V.sl (1 : Nat) (List.map iR sz)), ((6 : Nat), V.ptr (802001 : Nat) (0 : Nat) (0 : Nat) (0 : Nat)), ((7 : Nat), Sg { data := { toList := [(97 : UInt8), (98 : UInt8), (99 : UInt8), (100 : UInt8), (101 : UInt8), (102 : UInt8), (103 : UInt8), (104 : UInt8), (105 : UInt8), (106 : UInt8), (107 : UInt8), (108 : UInt8), (109 : UInt8), (110 : UInt8), (111 : UInt8), (112 : UInt8), (113 : UInt8), (114 : UInt8), (115 : UInt8), (116 : UInt8)] } }), ((8 : Nat), I u), ((9 : Nat), I (Int.ofNat i))], st := [((802001 : Nat), Obj.box [I (Dv.room d), I (Dv.used d), V.val (Value.int IntKind.u32 (bif Dv.nl d then (0 : Int) else (1 : Int))), V.val (Value.int IntKind.i32 (0 : Int)), V.val (Value.int IntKind.u32 (0 : Int)), V.mref (901 : Nat), I (Dv.fuse d)]), ((901 : Nat), Obj.nest (Nest.mp (Dv.nl d) (mE (Dv.fs d))) [])], ids := [(802001 : Nat), (901 : Nat)] }) :=
  runP hmix [.reg 10 [(3, [], some false)]] ⟨[0, 1, 6, 7, 8, 9], [(802001, 802001), (901, 901)], []⟩ [
      decide (Int.ofNat i < Int.ofNat (List.length (List.map iR sz))) = false] (by kernel_rfl)
    (by
      simp only [allP]
      and_intros <;> first
        | (simp; omega))

theorem roE (R : Int) (sz : List Int) (d : Dv) (u : Int) (i : Nat) (h : sz.length ≤ i)  : CodeC Try.prog 0 150 roB (roS R sz d u i) (.exit 0) (roS R sz d u i) := by
  exact CodeC.cast (by
    first
      | rfl) (roE_0 R sz d u i h )

theorem rdG_0 (l : Fs) (d d2 : Dv) (p : ByteArray × Fi) (i : Nat) (hx : l[i]? = some p) (hi : i < l.length) (hl : l.length ≤ 1000000000) (h1 : Contract Try.prog 16 [.ptr 0 0 0 0, .val (.string p.1)] [d.box 1, d.map] (I 0) [some (d2.box 1), some d2.map]) (hu : d2.used = d.used - p.2.bs.length) (h0 : 0 ≤ d2.used) (hm : d.used ≤ 1000000000) : CodeC Try.prog 0 150 rdB (rdS l d i) (Ex.normal) ({ env := [((6 : Nat), V.ptr (802001 : Nat) (0 : Nat) (0 : Nat) (0 : Nat)), ((12 : Nat), V.sl (3 : Nat) (List.map fR l)), ((13 : Nat), I (Int.ofNat (i + (1 : Nat))))], st := [((802001 : Nat), Obj.box [I (Dv.room d2), I (Dv.used d2), V.val (Value.int IntKind.u32 (bif Dv.nl d2 then (0 : Int) else (1 : Int))), V.val (Value.int IntKind.i32 (0 : Int)), V.val (Value.int IntKind.u32 (0 : Int)), V.mref (901 : Nat), I (Dv.fuse d2)]), ((901 : Nat), Obj.nest (Nest.mp (Dv.nl d2) (mE (Dv.fs d2))) [])], ids := [(802001 : Nat), (901 : Nat)] }) :=
  runP hmix [.reg 24 [(3, [], some true)], .reg 26 [(1, [.call [802001, 901] [] (I d.used) [some (d.box 1), some d.map]], none)], .reg 27 [(5, [.row (fR p)], none), (6, [.call [802001, 901] [] (I 0) [some (d2.box 1), some d2.map]], none), (7, [.call [] [] (I 0) []], none), (11, [.call [802001, 901] [] (I d2.used) [some (d2.box 1), some d2.map]], none), (17, [.row (fR p)], none), (19, [.be (I (d.used - p.2.bs.length))], none), (20, [], some false)], .reg 25 [(1, [.be (I ((i + 1 : Nat) : Int))], none)]] ⟨[6, 12, 13], [(802001, 802001), (901, 901)], []⟩ [
      decide (Int.ofNat i < Int.ofNat (List.length (List.map fR l))) = true,
      Contract Try.prog (14 : Nat) [V.ptr (0 : Nat) (0 : Nat) (0 : Nat) (0 : Nat)] [Obj.box [I (Dv.room d), I (Dv.used d), V.val (Value.int IntKind.u32 (bif Dv.nl d then (0 : Int) else (1 : Int))), V.val (Value.int IntKind.i32 (0 : Int)), V.val (Value.int IntKind.u32 (0 : Int)), V.mref (1 : Nat), I (Dv.fuse d)], Obj.nest (Nest.mp (Dv.nl d) (mE (Dv.fs d))) []] (I (Dv.used d)) [some (Obj.box [I (Dv.room d), I (Dv.used d), V.val (Value.int IntKind.u32 (bif Dv.nl d then (0 : Int) else (1 : Int))), V.val (Value.int IntKind.i32 (0 : Int)), V.val (Value.int IntKind.u32 (0 : Int)), V.mref (1 : Nat), I (Dv.fuse d)]), some (Obj.nest (Nest.mp (Dv.nl d) (mE (Dv.fs d))) [])],
      (0 : Int) ≤ Int.ofNat i,
      Int.ofNat i < Int.ofNat (List.length (List.map fR l)),
      (List.map fR l)[i]? = some (fR p),
      Contract Try.prog (16 : Nat) [V.ptr (0 : Nat) (0 : Nat) (0 : Nat) (0 : Nat), Sg (Prod.fst p)] [Obj.box [I (Dv.room d), I (Dv.used d), V.val (Value.int IntKind.u32 (bif Dv.nl d then (0 : Int) else (1 : Int))), V.val (Value.int IntKind.i32 (0 : Int)), V.val (Value.int IntKind.u32 (0 : Int)), V.mref (1 : Nat), I (Dv.fuse d)], Obj.nest (Nest.mp (Dv.nl d) (mE (Dv.fs d))) []] (I (0 : Int)) [some (Obj.box [I (Dv.room d2), I (Dv.used d2), V.val (Value.int IntKind.u32 (bif Dv.nl d2 then (0 : Int) else (1 : Int))), V.val (Value.int IntKind.i32 (0 : Int)), V.val (Value.int IntKind.u32 (0 : Int)), V.mref (1 : Nat), I (Dv.fuse d2)]), some (Obj.nest (Nest.mp (Dv.nl d2) (mE (Dv.fs d2))) [])],
      Contract Try.prog (13 : Nat) [I (0 : Int)] [] (I (0 : Int)) [],
      Contract Try.prog (14 : Nat) [V.ptr (0 : Nat) (0 : Nat) (0 : Nat) (0 : Nat)] [Obj.box [I (Dv.room d2), I (Dv.used d2), V.val (Value.int IntKind.u32 (bif Dv.nl d2 then (0 : Int) else (1 : Int))), V.val (Value.int IntKind.i32 (0 : Int)), V.val (Value.int IntKind.u32 (0 : Int)), V.mref (1 : Nat), I (Dv.fuse d2)], Obj.nest (Nest.mp (Dv.nl d2) (mE (Dv.fs d2))) []] (I (Dv.used d2)) [some (Obj.box [I (Dv.room d2), I (Dv.used d2), V.val (Value.int IntKind.u32 (bif Dv.nl d2 then (0 : Int) else (1 : Int))), V.val (Value.int IntKind.i32 (0 : Int)), V.val (Value.int IntKind.u32 (0 : Int)), V.mref (1 : Nat), I (Dv.fuse d2)]), some (Obj.nest (Nest.mp (Dv.nl d2) (mE (Dv.fs d2))) [])],
      (0 : Int) ≤ Int.ofNat i,
      Int.ofNat i < Int.ofNat (List.length (List.map fR l)),
      (List.map fR l)[i]? = some (fR p),
      IntKind.wrap IntKind.i64 (Dv.used d + -Int.ofNat (List.length (List.map bR (Fi.bs (Prod.snd p))))) = Dv.used d + -Int.ofNat (List.length (Fi.bs (Prod.snd p))),
      (Dv.used d2 != Dv.used d + -Int.ofNat (List.length (Fi.bs (Prod.snd p)))) = false,
      IntKind.wrap IntKind.i64 (Int.ofNat (i + (1 : Nat))) = Int.ofNat (i + (1 : Nat))] (by kernel_rfl)
    (by
      simp only [allP]
      and_intros <;> first
        | exact h1
        | exact cUsed d
        | exact cUsed d2
        | exact cNum 0
        | (simp [hx]; done)
        | (rw [List.length_map]; exact i64_small (by simp only [Int.ofNat_eq_natCast]; omega))
        | exact i64_small (by simp; omega)
        | (simp [hu, Int.sub_eq_add_neg]; done)
        | (simp; omega))

theorem rdG (l : Fs) (d d2 : Dv) (p : ByteArray × Fi) (i : Nat) (hx : l[i]? = some p) (hi : i < l.length) (hl : l.length ≤ 1000000000) (h1 : Contract Try.prog 16 [.ptr 0 0 0 0, .val (.string p.1)] [d.box 1, d.map] (I 0) [some (d2.box 1), some d2.map]) (hu : d2.used = d.used - p.2.bs.length) (h0 : 0 ≤ d2.used) (hm : d.used ≤ 1000000000)  : CodeC Try.prog 0 150 rdB (rdS l d i) .normal (rdS l d2 (i + 1)) := by
  exact CodeC.cast (by
    first
      | rfl) (rdG_0 l d d2 p i hx hi hl h1 hu h0 hm )

theorem rdE_0 (l : Fs) (d : Dv) (i : Nat) (h : l.length ≤ i) : CodeC Try.prog 0 150 rdB (rdS l d i) (Ex.exit (2 : Nat)) ({ env := [((6 : Nat), V.ptr (802001 : Nat) (0 : Nat) (0 : Nat) (0 : Nat)), ((12 : Nat), V.sl (3 : Nat) (List.map fR l)), ((13 : Nat), I (Int.ofNat i))], st := [((802001 : Nat), Obj.box [I (Dv.room d), I (Dv.used d), V.val (Value.int IntKind.u32 (bif Dv.nl d then (0 : Int) else (1 : Int))), V.val (Value.int IntKind.i32 (0 : Int)), V.val (Value.int IntKind.u32 (0 : Int)), V.mref (901 : Nat), I (Dv.fuse d)]), ((901 : Nat), Obj.nest (Nest.mp (Dv.nl d) (mE (Dv.fs d))) [])], ids := [(802001 : Nat), (901 : Nat)] }) :=
  runP hmix [.reg 24 [(3, [], some false)]] ⟨[6, 12, 13], [(802001, 802001), (901, 901)], []⟩ [
      decide (Int.ofNat i < Int.ofNat (List.length (List.map fR l))) = false] (by kernel_rfl)
    (by
      simp only [allP]
      and_intros <;> first
        | (simp; omega))

theorem rdE (l : Fs) (d : Dv) (i : Nat) (h : l.length ≤ i)  : CodeC Try.prog 0 150 rdB (rdS l d i) (.exit 2) (rdS l d i) := by
  exact CodeC.cast (by
    first
      | rfl) (rdE_0 l d i h )

theorem roX0_0 (R : Int) (sz : List Int) (h1 : R < 0) : Contract Try.prog 4 [I R, .sl 1 (sz.map iR)] [] (Bo true) ([]) :=
  vcP hmix [.reg 1 [(0, [.call [] [] (Bo true) []], none)], .reg 2 [(4, [], some true)]] [] [
      Contract Try.prog (8 : Nat) [] [] (Bo true) [],
      decide (R < (0 : Int)) = true] (by kernel_rfl)
    (by
      simp only [allP]
      and_intros <;> first
        | exact cAlive
        | (simp; omega))

theorem roX0 (R : Int) (sz : List Int) (h1 : R < 0) : Contract Try.prog 4 [I R, .sl 1 (sz.map iR)] [] (Bo true) [] := by
  exact Contract.cast (by
    first
      | rfl) (by
    first
      | rfl) (roX0_0 R sz h1 )

theorem roX1_0 (R : Int) (sz : List Int) (h1 : 0 ≤ R) (h2 : 2000 < R) : Contract Try.prog 4 [I R, .sl 1 (sz.map iR)] [] (Bo true) ([]) :=
  vcP hmix [.reg 1 [(0, [.call [] [] (Bo true) []], none)], .reg 2 [(4, [], some false), (8, [], some true)]] [] [
      Contract Try.prog (8 : Nat) [] [] (Bo true) [],
      decide (R < (0 : Int)) = false,
      decide (R > (2000 : Int)) = true] (by kernel_rfl)
    (by
      simp only [allP]
      and_intros <;> first
        | exact cAlive
        | (simp; omega))

theorem roX1 (R : Int) (sz : List Int) (h1 : 0 ≤ R) (h2 : 2000 < R) : Contract Try.prog 4 [I R, .sl 1 (sz.map iR)] [] (Bo true) [] := by
  exact Contract.cast (by
    first
      | rfl) (by
    first
      | rfl) (roX1_0 R sz h1 h2 )

theorem roX2_0 (R : Int) (sz : List Int) (h1 : 0 ≤ R) (h2 : R ≤ 2000) (h3 : 20 < sz.length) : Contract Try.prog 4 [I R, .sl 1 (sz.map iR)] [] (Bo true) ([]) :=
  vcP hmix [.reg 1 [(0, [.call [] [] (Bo true) []], none)], .reg 2 [(4, [], some false), (8, [], some false), (13, [], some true)]] [] [
      Contract Try.prog (8 : Nat) [] [] (Bo true) [],
      decide (R < (0 : Int)) = false,
      decide (R > (2000 : Int)) = false,
      decide (Int.ofNat (List.length (List.map iR sz)) > (20 : Int)) = true] (by kernel_rfl)
    (by
      simp only [allP]
      and_intros <;> first
        | exact cAlive
        | (simp; omega))

theorem roX2 (R : Int) (sz : List Int) (h1 : 0 ≤ R) (h2 : R ≤ 2000) (h3 : 20 < sz.length) : Contract Try.prog 4 [I R, .sl 1 (sz.map iR)] [] (Bo true) [] := by
  exact Contract.cast (by
    first
      | rfl) (by
    first
      | rfl) (roX2_0 R sz h1 h2 h3 )

theorem roF_0 (R : Int) (sz : List Int) (u : Int) (n n1 i : Nat) (d d2 d3 : Dv) (l : Fs) (h1 : 0 ≤ R) (h2 : R ≤ 2000) (h3 : sz.length ≤ 20) (hu : 0 ≤ u) (hn : R - u = n) (hn1 : n1 = n + 1) (hnew : Contract Try.prog 9 [I R] [] (.ptr 0 0 0 0) [some ((newD R).box 1), some (newD R).map]) (hL : LoopC Try.prog 0 150 roB (roS R sz (newD R) 0 0) (.exit 0) (roS R sz d u i)) (ha : Contract Try.prog 10 [.ptr 0 0 0 0, .val (.string ⟨#[122]⟩), .sl 1 ((zs n1).map bR)] [d.box 1, d.map] (I 3) [some (d.box 2), none, some d.map]) (hb : Contract Try.prog 10 [.ptr 0 0 0 0, .val (.string ⟨#[122]⟩), .sl 1 ((zs n).map bR)] [d.box 1, d.map] (I 0) [some (d2.box 2), none, some d2.map]) (hU : d2.used = R) (hF : Contract Try.prog 15 [.ptr 0 0 0 0] [d2.box 1, d2.map] (.sl 3 (l.map fR)) [some (d2.box 1), some d2.map]) (hK : LoopC Try.prog 0 150 rdB (rdS l d2 0) (.exit 2) (rdS l d3 l.length)) (hU3 : d3.used = 0) (hF3 : Contract Try.prog 15 [.ptr 0 0 0 0] [d3.box 1, d3.map] (.sl 3 []) [some (d3.box 1), some d3.map]) : Contract Try.prog 4 [I R, .sl 1 (sz.map iR)] [] (Bo true) ([]) :=
  vcP hmix [.reg 1 [(0, [.call [] [] (Bo true) []], none)], .reg 2 [(4, [], some false), (8, [], some false), (13, [], some false)], .reg 4 [(1, [.call [] [] (.ptr 0 0 0 0) [some ((newD R).box 1), some (newD R).map]], none)], .cut ⟨[0, 1, 6, 7, 8, 9], [(802001, 802001), (802002, 901)], []⟩ (.exit 0) (roS R sz d u i), .reg 20 [(3, [.be (I (n : Int))], none), (4, [.be (I (n1 : Int))], none), (5, [.beO ((zs n1).map bR)], none), (6, [.call [802001, 901] [] (I 3) [some (d.box 2), none, some d.map]], none), (7, [.call [] [] (I 3) []], none), (13, [.be (I (n : Int))], none), (14, [.beO ((zs n).map bR)], none), (15, [.call [802001, 4007001] [] (I 0) [some (d2.box 2), none, some d2.map]], none), (16, [.call [] [] (I 0) []], none), (21, [.call [802001, 4016001] [] (I d2.used) [some (d2.box 1), some d2.map]], none), (23, [], some false)], .reg 22 [(1, [.call [802001, 4016001] [] (.sl 3 (l.map fR)) [some (d2.box 1), some d2.map]], none)], .cut ⟨[6, 12, 13], [(802001, 802001), (4016001, 901)], []⟩ (.exit 2) (rdS l d3 l.length), .reg 29 [(1, [.call [802001, 901] [] (I d3.used) [some (d3.box 1), some d3.map]], none), (2, [], some true), (5, [.call [802001, 901] [] (.sl 3 []) [some (d3.box 1), some d3.map]], none)]] [] [
      Contract Try.prog (8 : Nat) [] [] (Bo true) [],
      decide (R < (0 : Int)) = false,
      decide (R > (2000 : Int)) = false,
      decide (Int.ofNat (List.length (List.map iR sz)) > (20 : Int)) = false,
      Contract Try.prog (9 : Nat) [I R] [] (V.ptr (0 : Nat) (0 : Nat) (0 : Nat) (0 : Nat)) [some (Obj.box [I (if (0 : Int) < R then R else (0 : Int)), I (0 : Int), V.val (Value.int IntKind.u32 (0 : Int)), V.val (Value.int IntKind.i32 (0 : Int)), V.val (Value.int IntKind.u32 (0 : Int)), V.mref (1 : Nat), I (-1 : Int)]), some (Obj.nest (Nest.mp true (mE [])) [])],
      LoopC Try.prog (0 : Nat) (150 : Nat) roB { env := [((0 : Nat), I R), ((1 : Nat), V.sl (1 : Nat) (List.map iR sz)), ((6 : Nat), V.ptr (802001 : Nat) (0 : Nat) (0 : Nat) (0 : Nat)), ((7 : Nat), Sg { data := { toList := [(97 : UInt8), (98 : UInt8), (99 : UInt8), (100 : UInt8), (101 : UInt8), (102 : UInt8), (103 : UInt8), (104 : UInt8), (105 : UInt8), (106 : UInt8), (107 : UInt8), (108 : UInt8), (109 : UInt8), (110 : UInt8), (111 : UInt8), (112 : UInt8), (113 : UInt8), (114 : UInt8), (115 : UInt8), (116 : UInt8)] } }), ((8 : Nat), I (0 : Int)), ((9 : Nat), I (0 : Int))], st := [((802001 : Nat), Obj.box [I (if (0 : Int) < R then R else (0 : Int)), I (0 : Int), V.val (Value.int IntKind.u32 (0 : Int)), V.val (Value.int IntKind.i32 (0 : Int)), V.val (Value.int IntKind.u32 (0 : Int)), V.mref (901 : Nat), I (-1 : Int)]), ((901 : Nat), Obj.nest (Nest.mp true (mE [])) [])], ids := [(802001 : Nat), (901 : Nat)] } (Ex.exit (0 : Nat)) { env := [((0 : Nat), I R), ((1 : Nat), V.sl (1 : Nat) (List.map iR sz)), ((6 : Nat), V.ptr (802001 : Nat) (0 : Nat) (0 : Nat) (0 : Nat)), ((7 : Nat), Sg { data := { toList := [(97 : UInt8), (98 : UInt8), (99 : UInt8), (100 : UInt8), (101 : UInt8), (102 : UInt8), (103 : UInt8), (104 : UInt8), (105 : UInt8), (106 : UInt8), (107 : UInt8), (108 : UInt8), (109 : UInt8), (110 : UInt8), (111 : UInt8), (112 : UInt8), (113 : UInt8), (114 : UInt8), (115 : UInt8), (116 : UInt8)] } }), ((8 : Nat), I u), ((9 : Nat), I (Int.ofNat i))], st := [((802001 : Nat), Obj.box [I (Dv.room d), I (Dv.used d), V.val (Value.int IntKind.u32 (bif Dv.nl d then (0 : Int) else (1 : Int))), V.val (Value.int IntKind.i32 (0 : Int)), V.val (Value.int IntKind.u32 (0 : Int)), V.mref (901 : Nat), I (Dv.fuse d)]), ((901 : Nat), Obj.nest (Nest.mp (Dv.nl d) (mE (Dv.fs d))) [])], ids := [(802001 : Nat), (901 : Nat)] },
      IntKind.wrap IntKind.i64 (R + -u) = Int.ofNat n,
      IntKind.wrap IntKind.i64 (Int.ofNat (n + (1 : Nat))) = Int.ofNat n1,
      Int.ofNat n1 = Int.ofNat n1,
      (0 : Int) ≤ Int.ofNat n1,
      n1 * (1 : Nat) ≤ (140737488355328 : Nat),
      List.replicate n1 [V.val (Value.int IntKind.u8 (0 : Int))] = List.map bR (zs n1),
      Contract Try.prog (10 : Nat) [V.ptr (0 : Nat) (0 : Nat) (0 : Nat) (0 : Nat), Sg { data := { toList := [(122 : UInt8)] } }, V.sl (1 : Nat) (List.map bR (zs n1))] [Obj.box [I (Dv.room d), I (Dv.used d), V.val (Value.int IntKind.u32 (bif Dv.nl d then (0 : Int) else (1 : Int))), V.val (Value.int IntKind.i32 (0 : Int)), V.val (Value.int IntKind.u32 (0 : Int)), V.mref (1 : Nat), I (Dv.fuse d)], Obj.nest (Nest.mp (Dv.nl d) (mE (Dv.fs d))) []] (I (3 : Int)) [some (Obj.box [I (Dv.room d), I (Dv.used d), V.val (Value.int IntKind.u32 (bif Dv.nl d then (0 : Int) else (1 : Int))), V.val (Value.int IntKind.i32 (0 : Int)), V.val (Value.int IntKind.u32 (0 : Int)), V.mref (2 : Nat), I (Dv.fuse d)]), none, some (Obj.nest (Nest.mp (Dv.nl d) (mE (Dv.fs d))) [])],
      true = true,
      true = true,
      ∀ (c0 : Inn), List.Mem c0 (List.map (fun x1 => Prod.snd x1) (mE (Dv.fs d))) → Inn.flat c0,
      Contract Try.prog (13 : Nat) [I (3 : Int)] [] (I (3 : Int)) [],
      IntKind.wrap IntKind.i64 (R + -u) = Int.ofNat n,
      Int.ofNat n = Int.ofNat n,
      (0 : Int) ≤ Int.ofNat n,
      n * (1 : Nat) ≤ (140737488355328 : Nat),
      List.replicate n [V.val (Value.int IntKind.u8 (0 : Int))] = List.map bR (zs n),
      Contract Try.prog (10 : Nat) [V.ptr (0 : Nat) (0 : Nat) (0 : Nat) (0 : Nat), Sg { data := { toList := [(122 : UInt8)] } }, V.sl (1 : Nat) (List.map bR (zs n))] [Obj.box [I (Dv.room d), I (Dv.used d), V.val (Value.int IntKind.u32 (bif Dv.nl d then (0 : Int) else (1 : Int))), V.val (Value.int IntKind.i32 (0 : Int)), V.val (Value.int IntKind.u32 (0 : Int)), V.mref (1 : Nat), I (Dv.fuse d)], Obj.nest (Nest.mp (Dv.nl d) (mE (Dv.fs d))) []] (I (0 : Int)) [some (Obj.box [I (Dv.room d2), I (Dv.used d2), V.val (Value.int IntKind.u32 (bif Dv.nl d2 then (0 : Int) else (1 : Int))), V.val (Value.int IntKind.i32 (0 : Int)), V.val (Value.int IntKind.u32 (0 : Int)), V.mref (2 : Nat), I (Dv.fuse d2)]), none, some (Obj.nest (Nest.mp (Dv.nl d2) (mE (Dv.fs d2))) [])],
      true = true,
      true = true,
      ∀ (c0 : Inn), List.Mem c0 (List.map (fun x1 => Prod.snd x1) (mE (Dv.fs d2))) → Inn.flat c0,
      Contract Try.prog (13 : Nat) [I (0 : Int)] [] (I (0 : Int)) [],
      Contract Try.prog (14 : Nat) [V.ptr (0 : Nat) (0 : Nat) (0 : Nat) (0 : Nat)] [Obj.box [I (Dv.room d2), I (Dv.used d2), V.val (Value.int IntKind.u32 (bif Dv.nl d2 then (0 : Int) else (1 : Int))), V.val (Value.int IntKind.i32 (0 : Int)), V.val (Value.int IntKind.u32 (0 : Int)), V.mref (1 : Nat), I (Dv.fuse d2)], Obj.nest (Nest.mp (Dv.nl d2) (mE (Dv.fs d2))) []] (I (Dv.used d2)) [some (Obj.box [I (Dv.room d2), I (Dv.used d2), V.val (Value.int IntKind.u32 (bif Dv.nl d2 then (0 : Int) else (1 : Int))), V.val (Value.int IntKind.i32 (0 : Int)), V.val (Value.int IntKind.u32 (0 : Int)), V.mref (1 : Nat), I (Dv.fuse d2)]), some (Obj.nest (Nest.mp (Dv.nl d2) (mE (Dv.fs d2))) [])],
      (Dv.used d2 != R) = false,
      Contract Try.prog (15 : Nat) [V.ptr (0 : Nat) (0 : Nat) (0 : Nat) (0 : Nat)] [Obj.box [I (Dv.room d2), I (Dv.used d2), V.val (Value.int IntKind.u32 (bif Dv.nl d2 then (0 : Int) else (1 : Int))), V.val (Value.int IntKind.i32 (0 : Int)), V.val (Value.int IntKind.u32 (0 : Int)), V.mref (1 : Nat), I (Dv.fuse d2)], Obj.nest (Nest.mp (Dv.nl d2) (mE (Dv.fs d2))) []] (V.sl (3 : Nat) (List.map fR l)) [some (Obj.box [I (Dv.room d2), I (Dv.used d2), V.val (Value.int IntKind.u32 (bif Dv.nl d2 then (0 : Int) else (1 : Int))), V.val (Value.int IntKind.i32 (0 : Int)), V.val (Value.int IntKind.u32 (0 : Int)), V.mref (1 : Nat), I (Dv.fuse d2)]), some (Obj.nest (Nest.mp (Dv.nl d2) (mE (Dv.fs d2))) [])],
      LoopC Try.prog (0 : Nat) (150 : Nat) rdB { env := [((6 : Nat), V.ptr (802001 : Nat) (0 : Nat) (0 : Nat) (0 : Nat)), ((12 : Nat), V.sl (3 : Nat) (List.map fR l)), ((13 : Nat), I (0 : Int))], st := [((802001 : Nat), Obj.box [I (Dv.room d2), I (Dv.used d2), V.val (Value.int IntKind.u32 (bif Dv.nl d2 then (0 : Int) else (1 : Int))), V.val (Value.int IntKind.i32 (0 : Int)), V.val (Value.int IntKind.u32 (0 : Int)), V.mref (901 : Nat), I (Dv.fuse d2)]), ((901 : Nat), Obj.nest (Nest.mp (Dv.nl d2) (mE (Dv.fs d2))) [])], ids := [(802001 : Nat), (901 : Nat)] } (Ex.exit (2 : Nat)) { env := [((6 : Nat), V.ptr (802001 : Nat) (0 : Nat) (0 : Nat) (0 : Nat)), ((12 : Nat), V.sl (3 : Nat) (List.map fR l)), ((13 : Nat), I (Int.ofNat (List.length l)))], st := [((802001 : Nat), Obj.box [I (Dv.room d3), I (Dv.used d3), V.val (Value.int IntKind.u32 (bif Dv.nl d3 then (0 : Int) else (1 : Int))), V.val (Value.int IntKind.i32 (0 : Int)), V.val (Value.int IntKind.u32 (0 : Int)), V.mref (901 : Nat), I (Dv.fuse d3)]), ((901 : Nat), Obj.nest (Nest.mp (Dv.nl d3) (mE (Dv.fs d3))) [])], ids := [(802001 : Nat), (901 : Nat)] },
      Contract Try.prog (14 : Nat) [V.ptr (0 : Nat) (0 : Nat) (0 : Nat) (0 : Nat)] [Obj.box [I (Dv.room d3), I (Dv.used d3), V.val (Value.int IntKind.u32 (bif Dv.nl d3 then (0 : Int) else (1 : Int))), V.val (Value.int IntKind.i32 (0 : Int)), V.val (Value.int IntKind.u32 (0 : Int)), V.mref (1 : Nat), I (Dv.fuse d3)], Obj.nest (Nest.mp (Dv.nl d3) (mE (Dv.fs d3))) []] (I (Dv.used d3)) [some (Obj.box [I (Dv.room d3), I (Dv.used d3), V.val (Value.int IntKind.u32 (bif Dv.nl d3 then (0 : Int) else (1 : Int))), V.val (Value.int IntKind.i32 (0 : Int)), V.val (Value.int IntKind.u32 (0 : Int)), V.mref (1 : Nat), I (Dv.fuse d3)]), some (Obj.nest (Nest.mp (Dv.nl d3) (mE (Dv.fs d3))) [])],
      (Dv.used d3 == (0 : Int)) = true,
      Contract Try.prog (15 : Nat) [V.ptr (0 : Nat) (0 : Nat) (0 : Nat) (0 : Nat)] [Obj.box [I (Dv.room d3), I (Dv.used d3), V.val (Value.int IntKind.u32 (bif Dv.nl d3 then (0 : Int) else (1 : Int))), V.val (Value.int IntKind.i32 (0 : Int)), V.val (Value.int IntKind.u32 (0 : Int)), V.mref (1 : Nat), I (Dv.fuse d3)], Obj.nest (Nest.mp (Dv.nl d3) (mE (Dv.fs d3))) []] (V.sl (3 : Nat) []) [some (Obj.box [I (Dv.room d3), I (Dv.used d3), V.val (Value.int IntKind.u32 (bif Dv.nl d3 then (0 : Int) else (1 : Int))), V.val (Value.int IntKind.i32 (0 : Int)), V.val (Value.int IntKind.u32 (0 : Int)), V.mref (1 : Nat), I (Dv.fuse d3)]), some (Obj.nest (Nest.mp (Dv.nl d3) (mE (Dv.fs d3))) [])]] (by kernel_rfl)
    (by
      simp only [allP]
      and_intros <;> first
        | omega
        | exact cAlive
        | exact hnew
        | exact hL
        | exact hK
        | exact ha
        | exact hb
        | exact hF
        | exact hF3
        | exact cUsed d2
        | exact cUsed d3
        | exact cNum 3
        | exact cNum 0
        | exact mE_flat _
        | exact zs_map _
        | (simp [hU]; done)
        | (simp [hU3]; done)
        | exact roN hn h1 h2 hu
        | exact roN1 hn hn1 h1 h2 hu
        | (simp; omega))

theorem roF (R : Int) (sz : List Int) (u : Int) (n n1 i : Nat) (d d2 d3 : Dv) (l : Fs) (h1 : 0 ≤ R) (h2 : R ≤ 2000) (h3 : sz.length ≤ 20) (hu : 0 ≤ u) (hn : R - u = n) (hn1 : n1 = n + 1) (hnew : Contract Try.prog 9 [I R] [] (.ptr 0 0 0 0) [some ((newD R).box 1), some (newD R).map]) (hL : LoopC Try.prog 0 150 roB (roS R sz (newD R) 0 0) (.exit 0) (roS R sz d u i)) (ha : Contract Try.prog 10 [.ptr 0 0 0 0, .val (.string ⟨#[122]⟩), .sl 1 ((zs n1).map bR)] [d.box 1, d.map] (I 3) [some (d.box 2), none, some d.map]) (hb : Contract Try.prog 10 [.ptr 0 0 0 0, .val (.string ⟨#[122]⟩), .sl 1 ((zs n).map bR)] [d.box 1, d.map] (I 0) [some (d2.box 2), none, some d2.map]) (hU : d2.used = R) (hF : Contract Try.prog 15 [.ptr 0 0 0 0] [d2.box 1, d2.map] (.sl 3 (l.map fR)) [some (d2.box 1), some d2.map]) (hK : LoopC Try.prog 0 150 rdB (rdS l d2 0) (.exit 2) (rdS l d3 l.length)) (hU3 : d3.used = 0) (hF3 : Contract Try.prog 15 [.ptr 0 0 0 0] [d3.box 1, d3.map] (.sl 3 []) [some (d3.box 1), some d3.map]) : Contract Try.prog 4 [I R, .sl 1 (sz.map iR)] [] (Bo true) [] := by
  exact Contract.cast (by
    first
      | rfl) (by
    first
      | rfl) (roF_0 R sz u n n1 i d d2 d3 l h1 h2 h3 hu hn hn1 hnew hL ha hb hU hF hK hU3 hF3 )

theorem nmI_ne {i : Nat} : (nmI i).toList ≠ [] := ba_ne _ []
theorem ro_app {d : Dv} {R u : Int} {s : ByteArray} {n : Nat} (hk : Ok d) (hs : s.toList ≠ []) (hf : d.fuse = -1) (hr : d.room = R) (hu : d.used = u) (hR : u ≤ R) (hR2 : R ≤ 2000) (hn : n ≤ 2001) (hz : s.size ≤ maxLen) (hl : d.fs.length < 100) :
    ∃ d2 : Dv, (u + n ≤ R → Contract Try.prog 10 [.ptr 0 0 0 0, .val (.string s), .sl 1 ((zs n).map bR)] [d.box 1, d.map] (I 0) [some (d2.box 2), none, some d2.map] ∧ Ok d2 ∧ d2.fuse = -1 ∧ d2.room = R ∧ d2.used = u + n ∧ d2.fs.length ≤ d.fs.length + 1) ∧ (R < u + n → Contract Try.prog 10 [.ptr 0 0 0 0, .val (.string s), .sl 1 ((zs n).map bR)] [d.box 1, d.map] (I 3) [some (d.box 2), none, some d.map]) := by
  have h1 := hk.used
  have ht : tot d.fs + (zs n).length ≤ 1000000000 := by rw [zs_len]; omega
  by_cases hle : u + n ≤ R
  · have e : d.append s (zs n) = (⟨d.room, d.used + (zs n).length, false, put d.fs s ⟨((look d.fs s).map (·.bs)).getD [] ++ zs n, ((look d.fs s).map (·.sure)).getD 0⟩, -1⟩, 0) := by
      unfold Dv.append
      rw [if_neg (by omega), if_neg hs, if_neg (by rw [zs_len]; omega)]
      simp only [Dv.went, hf]
      rfl
    refine ⟨_, fun _ => ⟨appC e hk ht, app_ok e hk ht hz (by omega), rfl, hr, ?_, ?_⟩, fun h => by omega⟩
    · show d.used + ((zs n).length : Int) = _; rw [zs_len]; omega
    · show (put d.fs s _).length ≤ _
      rw [length_put]; split <;> omega
  · have e : d.append s (zs n) = (d, 3) := by
      unfold Dv.append
      rw [if_neg (by omega), if_neg hs, if_pos (by rw [zs_len]; omega)]
    exact ⟨d, fun h => absurd h hle, fun _ => appC e hk ht⟩
theorem and255 (x : Int) : ∃ n : Nat, n ≤ 255 ∧ IntKind.i64.wrap (Int.ofNat ((x % 18446744073709551616).toNat &&& 255)) = (n : Int) := by
  have h : ((x % 18446744073709551616).toNat &&& 255) ≤ 255 := Nat.and_le_right
  exact ⟨_, h, i64_small (by simp only [Int.ofNat_eq_natCast]; omega)⟩
theorem roLoop (R : Int) (sz : List Int) (h20 : sz.length ≤ 20) (hR2 : R ≤ 2000) : ∀ (m i : Nat) (d : Dv) (u : Int), i + m = sz.length → Ok d → d.fuse = -1 → d.room = R → d.used = u → u ≤ R → d.fs.length ≤ i →
    ∃ d' u', LoopC Try.prog 0 150 roB (roS R sz d u i) (.exit 0) (roS R sz d' u' sz.length) ∧ Ok d' ∧ d'.fuse = -1 ∧ d'.room = R ∧ d'.used = u' ∧ u' ≤ R ∧ d'.fs.length ≤ 20
  | 0, i, d, u, h, hk, hf, hr, hu, hR, hl => by
    have : i = sz.length := by omega
    subst this
    exact ⟨d, u, LoopC.last (roE R sz d u _ (Nat.le_refl _)) (by simp), hk, hf, hr, hu, hR, by omega⟩
  | m + 1, i, d, u, h, hk, hf, hr, hu, hR, hl => by
    have hi : i < sz.length := by omega
    have hx := List.getElem?_eq_getElem hi
    obtain ⟨n, hn, hw⟩ := and255 sz[i]
    have hu0 : 0 ≤ u := by have := hk.used; omega
    have hz : (nmI i).size ≤ maxLen := by show (1 : Nat) ≤ maxLen; decide
    obtain ⟨d2, c1, c2⟩ := ro_app (n := n) hk (nmI_ne (i := i)) hf hr hu hR hR2 (by omega) hz (by omega)
    by_cases hle : u + n ≤ R
    · obtain ⟨k1, k2, k3, k4, k5, k6⟩ := c1 hle
      obtain ⟨d', u', g1, g2⟩ := roLoop R sz h20 hR2 m (i + 1) d2 (u + n) (by omega) k2 k3 k4 k5 hle (by omega)
      exact ⟨d', u', LoopC.next (roA R sz d d2 u sz[i] n i hx hi h20 hn hw hu0 hR hR2 hle k5 k1) g1, g2⟩
    · obtain ⟨d3, _, c3⟩ := ro_app (n := n) hk (nmI_ne (i := i)) hf hr hu hR hR2 (by omega) hz (by omega)
      obtain ⟨d', u', g1, g2⟩ := roLoop R sz h20 hR2 m (i + 1) d u (by omega) hk hf hr hu hR (by omega)
      have e : d.append (nmI i) (zs n) = (d, 3) := by
        unfold Dv.append
        rw [if_neg (by omega), if_neg nmI_ne, if_pos (by rw [zs_len]; omega)]
      exact ⟨d', u', LoopC.next (roC R sz d d u sz[i] n i hx hi h20 hn hw hu0 hR hR2 (by omega) hu (appC e hk (by rw [zs_len]; have := hk.used; omega))) g1, g2⟩
theorem rdLoop (l : Fs) (hl : l.length ≤ 1000000000) (hul : Uniq l) : ∀ (m j : Nat) (d : Dv), j + m = l.length → Ok d → d.fuse = -1 → (∀ p, p ∈ d.fs → p ∈ l.drop j) → (∀ p, p ∈ l.drop j → look d.fs p.1 = some p.2) →
    ∃ d', LoopC Try.prog 0 150 rdB (rdS l d j) (.exit 2) (rdS l d' l.length) ∧ Ok d' ∧ d'.fs = []
  | 0, j, d, h, hk, hf, ha, hb => by
    have : j = l.length := by omega
    subst this
    refine ⟨d, LoopC.last (rdE l d _ (Nat.le_refl _)) (by simp), hk, ?_⟩
    cases hfs : d.fs with
    | nil => rfl
    | cons p fs => have := ha p (by rw [hfs]; simp); simp at this
  | m + 1, j, d, h, hk, hf, ha, hb => by
    have hj : j < l.length := by omega
    have hx := List.getElem?_eq_getElem hj
    have hdr : l.drop j = l[j] :: l.drop (j + 1) := List.drop_eq_getElem_cons hj
    have hlk := hb l[j] (by rw [hdr]; exact List.mem_cons_self)
    have e : d.delete l[j].1 = (⟨d.room, d.used - l[j].2.bs.length, d.nl, del d.fs l[j].1, -1⟩, 0) := by
      unfold Dv.delete
      rw [if_neg (by omega), hlk]
      simp only [Dv.went, hf]
      rfl
    have hc := cDelete d l[j].1 hk
    have ho := delete_ok (s := l[j].1) hk
    rw [e] at hc ho
    have h1 := hk.used
    have h2 := hk.tot
    have h3 := tot_look hlk
    have hne : ∀ p, p ∈ l.drop (j + 1) → p.1 ≠ l[j].1 := by
      intro p hp hpe
      obtain ⟨k, hk1, hk2⟩ := List.getElem_of_mem hp
      have hk3 : l[j + 1 + k]? = some (l[j].1, p.2) := by
        have hh : (l.drop (j + 1))[k]? = some p := by rw [List.getElem?_eq_getElem hk1, hk2]
        rw [List.getElem?_drop] at hh
        rw [hh, ← hpe]
      have := hul.idx (a := j) (b := j + 1 + k) (f := l[j].2) hx hk3
      omega
    obtain ⟨d', g1, g2, g3⟩ := rdLoop l hl hul m (j + 1) _ (by omega) ho rfl (fun p hp => by
      have hp' := mem_del hp
      have := ha p hp'
      rw [hdr] at this
      rcases List.mem_cons.1 this with rfl | h
      · have hq : look (del d.fs l[j].1) l[j].1 = some l[j].2 := (uniq_del hk.uniq).mem hp
        rw [look_del, if_pos rfl] at hq; cases hq
      · exact h) (fun p hp => by
      show look (del d.fs l[j].1) p.1 = _
      rw [look_del, if_neg (hne p hp)]
      exact hb p (by rw [hdr]; exact List.mem_cons_of_mem _ hp))
    exact ⟨d', LoopC.next (rdG l d _ l[j] j hx hj hl hc rfl (by show 0 ≤ d.used - _; omega) (by omega)) g1, g2, g3⟩
theorem cDeviceRoom (R : Int) (sz : List Int) : Contract Try.prog 4 [I R, .sl 1 (sz.map iR)] [] (Bo true) [] := by
  by_cases h1 : R < 0
  · exact roX0 R sz h1
  by_cases h2 : 2000 < R
  · exact roX1 R sz (by omega) h2
  by_cases h3 : 20 < sz.length
  · exact roX2 R sz (by omega) (by omega) h3
  have e0 : newD R = ⟨R, 0, true, [], -1⟩ := by
    unfold newD
    by_cases h : 0 < R
    · rw [if_pos h]
    · rw [if_neg h]; have : R = 0 := by omega
      rw [this]
  have ok0 : Ok (newD R) := by rw [e0]; exact newP_ok (by omega) (by omega)
  obtain ⟨d, u, g1, g2, g3, g4, g5, g6, g7⟩ := roLoop R sz (by omega) (by omega) sz.length 0 (newD R) 0 (by omega) ok0 (by rw [e0]) (by rw [e0]) (by rw [e0]) (by omega) (by rw [e0]; simp)
  have hu0 : 0 ≤ u := by have := g2.used; omega
  obtain ⟨n, hn⟩ : ∃ n : Nat, R - u = n := ⟨(R - u).toNat, by omega⟩
  have hz : (⟨#[122]⟩ : ByteArray).size ≤ maxLen := by decide
  have hzn : (⟨#[122]⟩ : ByteArray).toList ≠ [] := ba_ne 122 []
  have ha : d.append ⟨#[122]⟩ (zs (n + 1)) = (d, 3) := by
    unfold Dv.append
    rw [if_neg (by omega), if_neg hzn, if_pos (by rw [zs_len]; omega)]
  have ca := appC ha g2 (by rw [zs_len]; have := g2.used; omega)
  obtain ⟨d2, c1, _⟩ := ro_app (n := n) g2 hzn g3 g4 g5 g6 (by omega) (by omega) hz (by omega)
  obtain ⟨k1, k2, k3, k4, k5, k6⟩ := c1 (by omega)
  have hul : Uniq (sortF d2.fs) := sortF_uniq k2.uniq
  obtain ⟨d3, q1, q2, q3⟩ := rdLoop (sortF d2.fs) (by rw [sortF_len]; omega) hul (sortF d2.fs).length 0 d2 (by omega) k2 k3 (fun p hp => by rw [List.drop_zero]; exact sortF_mem.2 hp) (fun p hp => by rw [List.drop_zero] at hp; exact k2.uniq.mem (sortF_mem.1 hp))
  have hf3 := cFiles d3 q2
  rw [q3, show sortF ([] : Fs) = [] by simp [sortF]] at hf3
  exact roF R sz u n (n + 1) sz.length d d2 d3 (sortF d2.fs) (by omega) (by omega) (by omega) hu0 hn rfl (cNew R) g1 ca k1 (by omega) (cFiles d2 k2) q1 (by rw [q2.used, q3]; rfl) hf3

open Go.ChangeShapes Go.WideShapes Go.ChangeAt Go.RowKit
theorem typed_all {α : Type} {f : α → List V} {rows : List (List V)} (h : ∀ r ∈ rows, ∃ e : α, r = f e) : ∃ es : List α, rows = es.map f := by
  induction rows with
  | nil => exact ⟨[], rfl⟩
  | cons r rows ih =>
    obtain ⟨e, rfl⟩ := h r (by simp)
    obtain ⟨es, rfl⟩ := ih fun r hr => h r (by simp [hr])
    exact ⟨e :: es, rfl⟩
theorem typed_i {r : List V} {B d : Nat} (h : Typed Try.prog B (d + 1) 3 r) : ∃ n : Int, r = iR n := by
  obtain ⟨n, rfl, _⟩ := typed_int Try.underlying3 h
  exact ⟨n, rfl⟩
theorem own : ownKnob Try.prog.godebug = none := by kernel_rfl
theorem laidOut : laidOutB Try.prog = true := by kernel_rfl
theorem deviceRoom_lifted (os : Os) (started : os.Started) (H : Type) (enc : TypeId × Value → H) :
    ReturnsInHanded {} Try.checked os 4 .any (Rows.deviceRoomSpec.pre6 enc Try.prog Try.f4 Rows.deviceRoomRow.domain false) (Rows.deviceRoomSpec.post enc Try.prog Try.f4 false true false false) := by
  refine returnsInHanded_of_change (C := Try.checked) own started (by kernel_rfl) Try.func4
    (ChangeSpec.witness6 (enc := enc) (C := Try.checked) false ⟨#[], #[.int .i64 0, .slice none 0 0], []⟩ 8 (by kernel_rfl) (by kernel_rfl) (by kernel_rfl) (by kernel_rfl)) ?_
  intro W base args ds gs before hval hW _ _
  refine row_of (P := Try.prog) (tb := 4) laidOut rfl (by kernel_rfl) (by kernel_rfl) (by kernel_rfl) Try.underlying4 (fun ds h => ?_) (fun us h => ?_) W base args ds gs before hval hW
  · match ds, h with
    | [_, _], _ => rfl
  · obtain ⟨u0, _, rfl, h0, u1, _, rfl, h1, rfl⟩ := h
    obtain ⟨n, rfl, hn⟩ := arg_int Try.underlying3 h0
    obtain ⟨rows1, rfl, _, hr1⟩ := arg_slice Try.underlying33 h1
    obtain ⟨sz, rfl⟩ := typed_all (f := iR) fun r h => typed_i (hr1 r h)
    exact cDeviceRoom n sz

theorem DeviceRoom_proved : Rows.DeviceRoomSaid :=
  OpenClaim.holds_of_wide 4 Try.f4 rfl rfl rfl rfl rfl rfl rfl ⟨rfl, rfl, rfl, rfl, rfl⟩ rfl rfl rfl rfl rfl (by kernel_rfl) Try.func4 (by kernel_rfl)
    (of_decide_eq_true (by kernel_rfl)) (by unfold Func.isWrapper; first | (rw [if_pos (by decide +kernel)]; kernel_rfl) | (rw [if_neg (by decide +kernel)]; exact ⟨rfl, rfl⟩))
    (fun os started H enc _ => deviceRoom_lifted os started H enc)
#print axioms DeviceRoom_proved
end Go.Proofs.Ythmhkgddohgoeaa
