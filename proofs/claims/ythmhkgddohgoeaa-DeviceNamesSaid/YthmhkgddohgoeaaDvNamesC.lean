/- DeviceNames: a file that is renamed has what it had, instead of one that bore the name. -/
import Derived.Test.YthmhkgddohgoeaaDvNamesP4
import Derived.Test.YthmhkgddohgoeaaRows
namespace Go.Proofs.Ythmhkgddohgoeaa
open E
set_option maxRecDepth 100000
set_option linter.unusedVariables false
set_option linter.unusedSimpArgs false

theorem nmX0_0 (a b r : List UInt8) (t : Bool) (h1 : 200 < a.length) : Contract Try.prog 6 [.sl 1 (a.map bR), .sl 1 (b.map bR), .sl 1 (r.map bR), Bo t] [] (Bo true) ([]) :=
  vcP hmix [.reg 1 [(0, [.call [] [] (Bo true) []], none)], .reg 2 [(5, [], some true)]] [] [
      Contract Try.prog (8 : Nat) [] [] (Bo true) [],
      decide (Int.ofNat (List.length (List.map bR a)) > (200 : Int)) = true] (by kernel_rfl)
    (by
      simp only [allP]
      and_intros <;> first
        | exact cAlive
        | (simp; omega))

theorem nmX0 (a b r : List UInt8) (t : Bool) (h1 : 200 < a.length) : Contract Try.prog 6 [.sl 1 (a.map bR), .sl 1 (b.map bR), .sl 1 (r.map bR), Bo t] [] (Bo true) [] := by
  exact Contract.cast (by
    first
      | rfl) (by
    first
      | rfl) (nmX0_0 a b r t h1 )

theorem nmX1_0 (a b r : List UInt8) (t : Bool) (h1 : a.length ≤ 200) (h2 : 200 < b.length) : Contract Try.prog 6 [.sl 1 (a.map bR), .sl 1 (b.map bR), .sl 1 (r.map bR), Bo t] [] (Bo true) ([]) :=
  vcP hmix [.reg 1 [(0, [.call [] [] (Bo true) []], none)], .reg 2 [(5, [], some false), (10, [], some true)]] [] [
      Contract Try.prog (8 : Nat) [] [] (Bo true) [],
      decide (Int.ofNat (List.length (List.map bR a)) > (200 : Int)) = false,
      decide (Int.ofNat (List.length (List.map bR b)) > (200 : Int)) = true] (by kernel_rfl)
    (by
      simp only [allP]
      and_intros <;> first
        | exact cAlive
        | (simp; omega))

theorem nmX1 (a b r : List UInt8) (t : Bool) (h1 : a.length ≤ 200) (h2 : 200 < b.length) : Contract Try.prog 6 [.sl 1 (a.map bR), .sl 1 (b.map bR), .sl 1 (r.map bR), Bo t] [] (Bo true) [] := by
  exact Contract.cast (by
    first
      | rfl) (by
    first
      | rfl) (nmX1_0 a b r t h1 h2 )

theorem nmX2_0 (a b r : List UInt8) (t : Bool) (h1 : a.length ≤ 200) (h2 : b.length ≤ 200) (h3 : 200 < r.length) : Contract Try.prog 6 [.sl 1 (a.map bR), .sl 1 (b.map bR), .sl 1 (r.map bR), Bo t] [] (Bo true) ([]) :=
  vcP hmix [.reg 1 [(0, [.call [] [] (Bo true) []], none)], .reg 2 [(5, [], some false), (10, [], some false), (15, [], some true)]] [] [
      Contract Try.prog (8 : Nat) [] [] (Bo true) [],
      decide (Int.ofNat (List.length (List.map bR a)) > (200 : Int)) = false,
      decide (Int.ofNat (List.length (List.map bR b)) > (200 : Int)) = false,
      decide (Int.ofNat (List.length (List.map bR r)) > (200 : Int)) = true] (by kernel_rfl)
    (by
      simp only [allP]
      and_intros <;> first
        | exact cAlive
        | (simp; omega))

theorem nmX2 (a b r : List UInt8) (t : Bool) (h1 : a.length ≤ 200) (h2 : b.length ≤ 200) (h3 : 200 < r.length) : Contract Try.prog 6 [.sl 1 (a.map bR), .sl 1 (b.map bR), .sl 1 (r.map bR), Bo t] [] (Bo true) [] := by
  exact Contract.cast (by
    first
      | rfl) (by
    first
      | rfl) (nmX2_0 a b r t h1 h2 h3 )

theorem nmE {a r : List UInt8} : (a ++ r).take a.length = a := by simp
theorem nm_ok {s : ByteArray} {a : List UInt8} {n : Int} {u : Nat} {f : Int} (hu : u = a.length) (h : a.length ≤ 400) (h0 : 0 ≤ n) (hs : n ≤ a.length) (hf : f ≤ 0) (hz : s.size ≤ maxLen) : Ok (one 1000 u s a n f) :=
  one_ok hu h0 (by omega) (by omega) hz (by omega) ⟨by decide, by decide⟩
theorem sX_ne : (⟨#[120]⟩ : ByteArray).toList ≠ [] := ba_ne 120 []
theorem sY_ne : (⟨#[121]⟩ : ByteArray).toList ≠ [] := ba_ne 121 []
theorem nm_eq (a r : List UInt8) : ((⟨(a ++ r).toArray⟩ : ByteArray).toList == (⟨a.toArray⟩ ++ ⟨r.toArray⟩ : ByteArray).toList) = true := by rw [ba_app]; simp
theorem nm_y : (ByteArray.toList ⟨#[121]⟩ == ByteArray.toList ⟨#[121]⟩) = true := by simp
theorem xy : ((⟨#[120]⟩ : ByteArray) == ⟨#[121]⟩) = false := rfl
theorem yx : ((⟨#[121]⟩ : ByteArray) == ⟨#[120]⟩) = false := rfl
theorem nmApp {a b r : List UInt8} (h1 : a.length ≤ 200) (h2 : b.length ≤ 200) (h3 : r.length ≤ 200) : (one 1000 (a.length + r.length) ⟨#[120]⟩ (a ++ r) (((a.length : Nat) : Int)) (-1)).append ⟨#[121]⟩ b = ((⟨1000, ((a.length + r.length + b.length : Nat) : Int), false, [(⟨#[120]⟩, ⟨a ++ r, ((a.length : Nat) : Int)⟩), (⟨#[121]⟩, ⟨b, 0⟩)], -1⟩ : Dv), 0) := by
  unfold Dv.append
  rw [if_neg (by show ¬ ((-1 : Int) = 0); decide), if_neg sY_ne, if_neg (by simp only [one]; omega)]
  simp [one, put, look, Dv.went, yx]
theorem nm4 {a b r : List UInt8} (h1 : a.length ≤ 200) (h2 : b.length ≤ 200) (h3 : r.length ≤ 200) : Ok (⟨1000, ((a.length + r.length + b.length : Nat) : Int), false, [(⟨#[120]⟩, ⟨a ++ r, ((a.length : Nat) : Int)⟩), (⟨#[121]⟩, ⟨b, 0⟩)], -1⟩ : Dv) :=
  app_ok (nmApp h1 h2 h3) (nm_ok (by simp) (by simp; omega) (by omega) (by simp; omega) (by decide) (by decide)) (by simp [one, tot]; omega) (by decide) (by simp [one])
theorem nmRen {a b r : List UInt8} : (⟨1000, ((a.length + r.length + b.length : Nat) : Int), false, [(⟨#[120]⟩, ⟨a ++ r, ((a.length : Nat) : Int)⟩), (⟨#[121]⟩, ⟨b, 0⟩)], -1⟩ : Dv).rename ⟨#[120]⟩ ⟨#[121]⟩ = ((one 1000 (a.length + r.length) ⟨#[121]⟩ (a ++ r) (((a.length : Nat) : Int)) (-1)), 0) := by
  unfold Dv.rename
  rw [if_neg (by show ¬ ((-1 : Int) = 0); decide)]
  simp [look, del, len, sY_ne, Dv.went, one, xy, yx]
theorem nmRen0 {a r : List UInt8} : (one 1000 (a.length + r.length) ⟨#[120]⟩ (a ++ r) (((a.length : Nat) : Int)) (-1)).rename ⟨#[120]⟩ ⟨#[121]⟩ = ((one 1000 (a.length + r.length) ⟨#[121]⟩ (a ++ r) (((a.length : Nat) : Int)) (-1)), 0) := by
  unfold Dv.rename
  rw [if_neg (by show ¬ ((-1 : Int) = 0); decide)]
  simp [look, del, len, sY_ne, Dv.went, one, xy, yx]
theorem nmRen1 {a r : List UInt8} : (one 1000 (a.length + r.length) ⟨#[121]⟩ (a ++ r) (((a.length : Nat) : Int)) (-1)).rename ⟨#[120]⟩ ⟨#[122]⟩ = ((one 1000 (a.length + r.length) ⟨#[121]⟩ (a ++ r) (((a.length : Nat) : Int)) (-1)), 4) := by
  unfold Dv.rename
  rw [if_neg (by show ¬ ((-1 : Int) = 0); decide), show look (one 1000 (a.length + r.length) ⟨#[121]⟩ (a ++ r) (((a.length : Nat) : Int)) (-1)).fs ⟨#[120]⟩ = none by simp [one, look, xy]]
theorem nmRen2 {a r : List UInt8} : (one 1000 (a.length + r.length) ⟨#[121]⟩ (a ++ r) (((a.length : Nat) : Int)) (-1)).rename ⟨#[121]⟩ ⟨#[]⟩ = ((one 1000 (a.length + r.length) ⟨#[121]⟩ (a ++ r) (((a.length : Nat) : Int)) (-1)), 1) := by
  unfold Dv.rename
  rw [if_neg (by show ¬ ((-1 : Int) = 0); decide), one_look]
  simp [ByteArray.toList_eq]
theorem nmK1 {a : List UInt8} (h1 : a.length ≤ 200) : Contract Try.prog 10 [.ptr 0 0 0 0, .val (.string ⟨#[120]⟩), .sl 1 (a.map bR)] [(⟨1000, 0, true, [], -1⟩ : Dv).box 1, (⟨1000, 0, true, [], -1⟩ : Dv).map] (I 0) [some ((one 1000 (a.length) ⟨#[120]⟩ (a) (0) (-1)).box 2), none, some (one 1000 (a.length) ⟨#[120]⟩ (a) (0) (-1)).map] := one_new 1000 ⟨#[120]⟩ a sX_ne (by omega) (by omega) (by decide) (by decide)
theorem nmK2 {a : List UInt8} (h1 : a.length ≤ 200) : Contract Try.prog 12 [.ptr 0 0 0 0, .val (.string ⟨#[120]⟩)] [(one 1000 (a.length) ⟨#[120]⟩ (a) (0) (-1)).box 1, (one 1000 (a.length) ⟨#[120]⟩ (a) (0) (-1)).map] (I 0) [some ((one 1000 (a.length) ⟨#[120]⟩ (a) (((a.length : Nat) : Int)) (-1)).box 1), some (one 1000 (a.length) ⟨#[120]⟩ (a) (((a.length : Nat) : Int)) (-1)).map] := one_sync (nm_ok rfl (by omega) (by decide) (by omega) (by decide) (by decide)) rfl
theorem nmK3 {a r : List UInt8} (h1 : a.length ≤ 200) (h2 : r.length ≤ 200) : Contract Try.prog 10 [.ptr 0 0 0 0, .val (.string ⟨#[120]⟩), .sl 1 (r.map bR)] [(one 1000 (a.length) ⟨#[120]⟩ (a) (((a.length : Nat) : Int)) (-1)).box 1, (one 1000 (a.length) ⟨#[120]⟩ (a) (((a.length : Nat) : Int)) (-1)).map] (I 0) [some ((one 1000 (a.length + r.length) ⟨#[120]⟩ (a ++ r) (((a.length : Nat) : Int)) (-1)).box 2), none, some (one 1000 (a.length + r.length) ⟨#[120]⟩ (a ++ r) (((a.length : Nat) : Int)) (-1)).map] := one_app r (nm_ok rfl (by omega) (by omega) (by omega) (by decide) (by decide)) sX_ne (by omega) (by omega) rfl
theorem nm3 {a r : List UInt8} (h1 : a.length ≤ 200) (h2 : r.length ≤ 200) : Ok (one 1000 (a.length + r.length) ⟨#[120]⟩ (a ++ r) (((a.length : Nat) : Int)) (-1)) := nm_ok (by simp) (by simp; omega) (by omega) (by simp; omega) (by decide) (by decide)
theorem nm5 {a r : List UInt8} (h1 : a.length ≤ 200) (h2 : r.length ≤ 200) : Ok (one 1000 (a.length + r.length) ⟨#[121]⟩ (a ++ r) (((a.length : Nat) : Int)) (-1)) := nm_ok (by simp) (by simp; omega) (by omega) (by simp; omega) (by decide) (by decide)
theorem nmK4 {a b r : List UInt8} (h1 : a.length ≤ 200) (h2 : b.length ≤ 200) (h3 : r.length ≤ 200) : Contract Try.prog 10 [.ptr 0 0 0 0, .val (.string ⟨#[121]⟩), .sl 1 (b.map bR)] [(one 1000 (a.length + r.length) ⟨#[120]⟩ (a ++ r) (((a.length : Nat) : Int)) (-1)).box 1, (one 1000 (a.length + r.length) ⟨#[120]⟩ (a ++ r) (((a.length : Nat) : Int)) (-1)).map] (I 0) [some ((⟨1000, ((a.length + r.length + b.length : Nat) : Int), false, [(⟨#[120]⟩, ⟨a ++ r, ((a.length : Nat) : Int)⟩), (⟨#[121]⟩, ⟨b, 0⟩)], -1⟩ : Dv).box 2), none, some (⟨1000, ((a.length + r.length + b.length : Nat) : Int), false, [(⟨#[120]⟩, ⟨a ++ r, ((a.length : Nat) : Int)⟩), (⟨#[121]⟩, ⟨b, 0⟩)], -1⟩ : Dv).map] := appC (nmApp h1 h2 h3) (nm3 h1 h3) (by simp [one, tot]; omega)
theorem nmK5 {a b r : List UInt8} (h1 : a.length ≤ 200) (h2 : b.length ≤ 200) (h3 : r.length ≤ 200) : Contract Try.prog 19 [.ptr 0 0 0 0, .val (.string ⟨#[120]⟩), .val (.string ⟨#[121]⟩)] [(⟨1000, ((a.length + r.length + b.length : Nat) : Int), false, [(⟨#[120]⟩, ⟨a ++ r, ((a.length : Nat) : Int)⟩), (⟨#[121]⟩, ⟨b, 0⟩)], -1⟩ : Dv).box 1, (⟨1000, ((a.length + r.length + b.length : Nat) : Int), false, [(⟨#[120]⟩, ⟨a ++ r, ((a.length : Nat) : Int)⟩), (⟨#[121]⟩, ⟨b, 0⟩)], -1⟩ : Dv).map] (I 0) [some ((one 1000 (a.length + r.length) ⟨#[121]⟩ (a ++ r) (((a.length : Nat) : Int)) (-1)).box 1), some (one 1000 (a.length + r.length) ⟨#[121]⟩ (a ++ r) (((a.length : Nat) : Int)) (-1)).map] := renC nmRen (nm4 h1 h2 h3)
theorem nmK6 {a r : List UInt8} (h1 : a.length ≤ 200) (h3 : r.length ≤ 200) : Contract Try.prog 19 [.ptr 0 0 0 0, .val (.string ⟨#[120]⟩), .val (.string ⟨#[121]⟩)] [(one 1000 (a.length + r.length) ⟨#[120]⟩ (a ++ r) (((a.length : Nat) : Int)) (-1)).box 1, (one 1000 (a.length + r.length) ⟨#[120]⟩ (a ++ r) (((a.length : Nat) : Int)) (-1)).map] (I 0) [some ((one 1000 (a.length + r.length) ⟨#[121]⟩ (a ++ r) (((a.length : Nat) : Int)) (-1)).box 1), some (one 1000 (a.length + r.length) ⟨#[121]⟩ (a ++ r) (((a.length : Nat) : Int)) (-1)).map] := renC nmRen0 (nm3 h1 h3)
theorem nmK7 {a r : List UInt8} (h1 : a.length ≤ 200) (h3 : r.length ≤ 200) : Contract Try.prog 19 [.ptr 0 0 0 0, .val (.string ⟨#[120]⟩), .val (.string ⟨#[122]⟩)] [(one 1000 (a.length + r.length) ⟨#[121]⟩ (a ++ r) (((a.length : Nat) : Int)) (-1)).box 1, (one 1000 (a.length + r.length) ⟨#[121]⟩ (a ++ r) (((a.length : Nat) : Int)) (-1)).map] (I 4) [some ((one 1000 (a.length + r.length) ⟨#[121]⟩ (a ++ r) (((a.length : Nat) : Int)) (-1)).box 1), some (one 1000 (a.length + r.length) ⟨#[121]⟩ (a ++ r) (((a.length : Nat) : Int)) (-1)).map] := renC nmRen1 (nm5 h1 h3)
theorem nmK8 {a r : List UInt8} (h1 : a.length ≤ 200) (h3 : r.length ≤ 200) : Contract Try.prog 19 [.ptr 0 0 0 0, .val (.string ⟨#[121]⟩), .val (.string ⟨#[]⟩)] [(one 1000 (a.length + r.length) ⟨#[121]⟩ (a ++ r) (((a.length : Nat) : Int)) (-1)).box 1, (one 1000 (a.length + r.length) ⟨#[121]⟩ (a ++ r) (((a.length : Nat) : Int)) (-1)).map] (I 1) [some ((one 1000 (a.length + r.length) ⟨#[121]⟩ (a ++ r) (((a.length : Nat) : Int)) (-1)).box 1), some (one 1000 (a.length + r.length) ⟨#[121]⟩ (a ++ r) (((a.length : Nat) : Int)) (-1)).map] := renC nmRen2 (nm5 h1 h3)
theorem nmK9 {a r : List UInt8} (h1 : a.length ≤ 200) (h3 : r.length ≤ 200) : Contract Try.prog 15 [.ptr 0 0 0 0] [(one 1000 (a.length + r.length) ⟨#[121]⟩ (a ++ r) (((a.length : Nat) : Int)) (-1)).box 1, (one 1000 (a.length + r.length) ⟨#[121]⟩ (a ++ r) (((a.length : Nat) : Int)) (-1)).map] (.sl 3 [[.val (.string ⟨#[121]⟩), .sl 1 ((a ++ r).map bR), I ((a.length : Nat) : Int)]]) [some ((one 1000 (a.length + r.length) ⟨#[121]⟩ (a ++ r) (((a.length : Nat) : Int)) (-1)).box 1), some (one 1000 (a.length + r.length) ⟨#[121]⟩ (a ++ r) (((a.length : Nat) : Int)) (-1)).map] := one_files (nm5 h1 h3)
theorem nmK0 {a : List UInt8} (h1 : a.length ≤ 200) : Contract Try.prog 18 [.ptr 0 0 0 0, .val (.string ⟨#[121]⟩)] [(one 1000 (a.length) ⟨#[121]⟩ (a) (((a.length : Nat) : Int)) (-1)).box 1, (one 1000 (a.length) ⟨#[121]⟩ (a) (((a.length : Nat) : Int)) (-1)).map] (.tup [.sl 1 (a.map bR), Bo true]) [some ((one 1000 (a.length) ⟨#[121]⟩ (a) (((a.length : Nat) : Int)) (-1)).box 1), some (one 1000 (a.length) ⟨#[121]⟩ (a) (((a.length : Nat) : Int)) (-1)).map] := one_read (nm_ok rfl (by omega) (by omega) (by omega) (by decide) (by decide))
theorem flat1 (f : Fi) : ∀ c0 : Inn, List.Mem c0 [f.inn] → c0.flat := fun c h => mE_flat [(default, f)] c h
theorem nmC {a r : List UInt8} (h1 : a.length ≤ 200) (h3 : r.length ≤ 200) :
    Contract Try.prog 17 [.ptr 0 0 0 0, .sl 1 ([0].map iR)] [(one 1000 (a.length + r.length) ⟨#[121]⟩ (a ++ r) (((a.length : Nat) : Int)) (-1)).box 1, (one 1000 (a.length + r.length) ⟨#[121]⟩ (a ++ r) (((a.length : Nat) : Int)) (-1)).map] (.tup []) [some ((one 1000 (a.length) ⟨#[121]⟩ (a) (((a.length : Nat) : Int)) (-1)).box 1), some (one 1000 (a.length) ⟨#[121]⟩ (a) (((a.length : Nat) : Int)) (-1)).map] := by
  have := one_crash (R := 1000) (u := a.length + r.length) (s := ⟨#[121]⟩) (bs := a ++ r) (sure := (a.length : Nat)) (fuse := -1) 0 a.length (nm_ok (by simp) (by simp; omega) (by omega) (by simp; omega) (by decide) (by decide)) (by simp) (by
    simp only [crN, List.length_append, Int.ofNat_eq_natCast]; split <;> split <;> omega)
  rwa [nmE] at this
theorem nmA_0 (a b r : List UInt8) (h1 : a.length ≤ 200) (h2 : b.length ≤ 200) (h3 : r.length ≤ 200) : Contract Try.prog 6 [.sl 1 (a.map bR), .sl 1 (b.map bR), .sl 1 (r.map bR), Bo true] [] (Bo true) ([]) :=
  vcP hmix [.reg 1 [(0, [.call [] [] (Bo true) []], none)], .reg 2 [(5, [], some false), (10, [], some false), (15, [], some false)], .reg 4 [(0, [.call [] [] (.ptr 0 0 0 0) [some ((⟨1000, 0, true, [], -1⟩ : Dv).box 1), some (⟨1000, 0, true, [], -1⟩ : Dv).map]], none)], .reg 7 [(2, [.call [801001, 801002] [] (I 0) [some ((one 1000 (a.length) ⟨#[120]⟩ (a) (0) (-1)).box 2), none, some (one 1000 (a.length) ⟨#[120]⟩ (a) (0) (-1)).map]], none)], .reg 8 [(1, [.call [801001, 1403001] [] (I 0) [some ((one 1000 (a.length) ⟨#[120]⟩ (a) (((a.length : Nat) : Int)) (-1)).box 1), some (one 1000 (a.length) ⟨#[120]⟩ (a) (((a.length : Nat) : Int)) (-1)).map]], none)], .reg 9 [(2, [.call [801001, 1403001] [] (I 0) [some ((one 1000 (a.length + r.length) ⟨#[120]⟩ (a ++ r) (((a.length : Nat) : Int)) (-1)).box 2), none, some (one 1000 (a.length + r.length) ⟨#[120]⟩ (a ++ r) (((a.length : Nat) : Int)) (-1)).map]], none)], .reg 11 [(2, [.call [801001, 1803001] [] (I 0) [some ((⟨1000, ((a.length + r.length + b.length : Nat) : Int), false, [(⟨#[120]⟩, ⟨a ++ r, ((a.length : Nat) : Int)⟩), (⟨#[121]⟩, ⟨b, 0⟩)], -1⟩ : Dv).box 2), none, some (⟨1000, ((a.length + r.length + b.length : Nat) : Int), false, [(⟨#[120]⟩, ⟨a ++ r, ((a.length : Nat) : Int)⟩), (⟨#[121]⟩, ⟨b, 0⟩)], -1⟩ : Dv).map]], none)], .reg 12 [(1, [.call [801001, 2203001] [] (I 0) [some ((one 1000 (a.length + r.length) ⟨#[121]⟩ (a ++ r) (((a.length : Nat) : Int)) (-1)).box 1), some (one 1000 (a.length + r.length) ⟨#[121]⟩ (a ++ r) (((a.length : Nat) : Int)) (-1)).map]], none)], .reg 13 [(1, [.call [801001, 2203001] [] (I 4) [some ((one 1000 (a.length + r.length) ⟨#[121]⟩ (a ++ r) (((a.length : Nat) : Int)) (-1)).box 1), some (one 1000 (a.length + r.length) ⟨#[121]⟩ (a ++ r) (((a.length : Nat) : Int)) (-1)).map]], none)], .reg 14 [(1, [.call [801001, 2203001] [] (I 1) [some ((one 1000 (a.length + r.length) ⟨#[121]⟩ (a ++ r) (((a.length : Nat) : Int)) (-1)).box 1), some (one 1000 (a.length + r.length) ⟨#[121]⟩ (a ++ r) (((a.length : Nat) : Int)) (-1)).map]], none)], .reg 15 [(1, [.call [801001, 2203001] [] (.sl 3 [[.val (.string ⟨#[121]⟩), .sl 1 ((a ++ r).map bR), I ((a.length : Nat) : Int)]]) [some ((one 1000 (a.length + r.length) ⟨#[121]⟩ (a ++ r) (((a.length : Nat) : Int)) (-1)).box 1), some (one 1000 (a.length + r.length) ⟨#[121]⟩ (a ++ r) (((a.length : Nat) : Int)) (-1)).map]], none)], .reg 16 [(2, [.call [801001, 2203001] [] (.tup []) [some ((one 1000 (a.length) ⟨#[121]⟩ (a) (((a.length : Nat) : Int)) (-1)).box 1), some (one 1000 (a.length) ⟨#[121]⟩ (a) (((a.length : Nat) : Int)) (-1)).map]], none)], .reg 17 [(1, [.call [801001, 2203001] [] (.tup [.sl 1 (a.map bR), Bo true]) [some ((one 1000 (a.length) ⟨#[121]⟩ (a) (((a.length : Nat) : Int)) (-1)).box 1), some (one 1000 (a.length) ⟨#[121]⟩ (a) (((a.length : Nat) : Int)) (-1)).map]], none)], .reg 18 [(1, [.call [] [] (I 0) []], none), (5, [.call [] [] (I 4) []], none), (10, [.call [] [] (I 1) []], none), (23, [], some true), (32, [], some true), (39, [.str ⟨(a ++ r).toArray⟩], none), (41, [.str ⟨a.toArray⟩], none), (43, [.str ⟨r.toArray⟩], none), (44, [.idx 0], none), (45, [], some true), (52, [.str ⟨a.toArray⟩], none), (54, [.str ⟨a.toArray⟩], none), (55, [], some true)]] [] [
      Contract Try.prog (8 : Nat) [] [] (Bo true) [],
      decide (Int.ofNat (List.length (List.map bR a)) > (200 : Int)) = false,
      decide (Int.ofNat (List.length (List.map bR b)) > (200 : Int)) = false,
      decide (Int.ofNat (List.length (List.map bR r)) > (200 : Int)) = false,
      Contract Try.prog (9 : Nat) [I (1000 : Int)] [] (V.ptr (0 : Nat) (0 : Nat) (0 : Nat) (0 : Nat)) [some (Obj.box [I (1000 : Int), I (0 : Int), V.val (Value.int IntKind.u32 (0 : Int)), V.val (Value.int IntKind.i32 (0 : Int)), V.val (Value.int IntKind.u32 (0 : Int)), V.mref (1 : Nat), I (-1 : Int)]), some (Obj.nest (Nest.mp true (mE [])) [])],
      Contract Try.prog (10 : Nat) [V.ptr (0 : Nat) (0 : Nat) (0 : Nat) (0 : Nat), Sg { data := { toList := [(120 : UInt8)] } }, V.sl (1 : Nat) (List.map bR a)] [Obj.box [I (1000 : Int), I (0 : Int), V.val (Value.int IntKind.u32 (0 : Int)), V.val (Value.int IntKind.i32 (0 : Int)), V.val (Value.int IntKind.u32 (0 : Int)), V.mref (1 : Nat), I (-1 : Int)], Obj.nest (Nest.mp true (mE [])) []] (I (0 : Int)) [some (Obj.box [I (1000 : Int), I (Int.ofNat (List.length a)), V.val (Value.int IntKind.u32 (1 : Int)), V.val (Value.int IntKind.i32 (0 : Int)), V.val (Value.int IntKind.u32 (0 : Int)), V.mref (2 : Nat), I (-1 : Int)]), none, some (Obj.nest (Nest.mp false (mE [({ data := { toList := [(120 : UInt8)] } }, { bs := a, sure := (0 : Int) })])) [])],
      Contract Try.prog (12 : Nat) [V.ptr (0 : Nat) (0 : Nat) (0 : Nat) (0 : Nat), Sg { data := { toList := [(120 : UInt8)] } }] [Obj.box [I (1000 : Int), I (Int.ofNat (List.length a)), V.val (Value.int IntKind.u32 (1 : Int)), V.val (Value.int IntKind.i32 (0 : Int)), V.val (Value.int IntKind.u32 (0 : Int)), V.mref (1 : Nat), I (-1 : Int)], Obj.nest (Nest.mp false (mE [({ data := { toList := [(120 : UInt8)] } }, { bs := a, sure := (0 : Int) })])) []] (I (0 : Int)) [some (Obj.box [I (1000 : Int), I (Int.ofNat (List.length a)), V.val (Value.int IntKind.u32 (1 : Int)), V.val (Value.int IntKind.i32 (0 : Int)), V.val (Value.int IntKind.u32 (0 : Int)), V.mref (1 : Nat), I (-1 : Int)]), some (Obj.nest (Nest.mp false (mE [({ data := { toList := [(120 : UInt8)] } }, { bs := a, sure := Int.ofNat (List.length a) })])) [])],
      Contract Try.prog (10 : Nat) [V.ptr (0 : Nat) (0 : Nat) (0 : Nat) (0 : Nat), Sg { data := { toList := [(120 : UInt8)] } }, V.sl (1 : Nat) (List.map bR r)] [Obj.box [I (1000 : Int), I (Int.ofNat (List.length a)), V.val (Value.int IntKind.u32 (1 : Int)), V.val (Value.int IntKind.i32 (0 : Int)), V.val (Value.int IntKind.u32 (0 : Int)), V.mref (1 : Nat), I (-1 : Int)], Obj.nest (Nest.mp false (mE [({ data := { toList := [(120 : UInt8)] } }, { bs := a, sure := Int.ofNat (List.length a) })])) []] (I (0 : Int)) [some (Obj.box [I (1000 : Int), I (Int.ofNat (List.length a + List.length r)), V.val (Value.int IntKind.u32 (1 : Int)), V.val (Value.int IntKind.i32 (0 : Int)), V.val (Value.int IntKind.u32 (0 : Int)), V.mref (2 : Nat), I (-1 : Int)]), none, some (Obj.nest (Nest.mp false (mE [({ data := { toList := [(120 : UInt8)] } }, { bs := a ++ r, sure := Int.ofNat (List.length a) })])) [])],
      Contract Try.prog (10 : Nat) [V.ptr (0 : Nat) (0 : Nat) (0 : Nat) (0 : Nat), Sg { data := { toList := [(121 : UInt8)] } }, V.sl (1 : Nat) (List.map bR b)] [Obj.box [I (1000 : Int), I (Int.ofNat (List.length a + List.length r)), V.val (Value.int IntKind.u32 (1 : Int)), V.val (Value.int IntKind.i32 (0 : Int)), V.val (Value.int IntKind.u32 (0 : Int)), V.mref (1 : Nat), I (-1 : Int)], Obj.nest (Nest.mp false (mE [({ data := { toList := [(120 : UInt8)] } }, { bs := a ++ r, sure := Int.ofNat (List.length a) })])) []] (I (0 : Int)) [some (Obj.box [I (1000 : Int), I (Int.ofNat (List.length a + List.length r + List.length b)), V.val (Value.int IntKind.u32 (1 : Int)), V.val (Value.int IntKind.i32 (0 : Int)), V.val (Value.int IntKind.u32 (0 : Int)), V.mref (2 : Nat), I (-1 : Int)]), none, some (Obj.nest (Nest.mp false (mE [({ data := { toList := [(120 : UInt8)] } }, { bs := a ++ r, sure := Int.ofNat (List.length a) }), ({ data := { toList := [(121 : UInt8)] } }, { bs := b, sure := (0 : Int) })])) [])],
      Contract Try.prog (19 : Nat) [V.ptr (0 : Nat) (0 : Nat) (0 : Nat) (0 : Nat), Sg { data := { toList := [(120 : UInt8)] } }, Sg { data := { toList := [(121 : UInt8)] } }] [Obj.box [I (1000 : Int), I (Int.ofNat (List.length a + List.length r + List.length b)), V.val (Value.int IntKind.u32 (1 : Int)), V.val (Value.int IntKind.i32 (0 : Int)), V.val (Value.int IntKind.u32 (0 : Int)), V.mref (1 : Nat), I (-1 : Int)], Obj.nest (Nest.mp false (mE [({ data := { toList := [(120 : UInt8)] } }, { bs := a ++ r, sure := Int.ofNat (List.length a) }), ({ data := { toList := [(121 : UInt8)] } }, { bs := b, sure := (0 : Int) })])) []] (I (0 : Int)) [some (Obj.box [I (1000 : Int), I (Int.ofNat (List.length a + List.length r)), V.val (Value.int IntKind.u32 (1 : Int)), V.val (Value.int IntKind.i32 (0 : Int)), V.val (Value.int IntKind.u32 (0 : Int)), V.mref (1 : Nat), I (-1 : Int)]), some (Obj.nest (Nest.mp false (mE [({ data := { toList := [(121 : UInt8)] } }, { bs := a ++ r, sure := Int.ofNat (List.length a) })])) [])],
      Contract Try.prog (19 : Nat) [V.ptr (0 : Nat) (0 : Nat) (0 : Nat) (0 : Nat), Sg { data := { toList := [(120 : UInt8)] } }, Sg { data := { toList := [(122 : UInt8)] } }] [Obj.box [I (1000 : Int), I (Int.ofNat (List.length a + List.length r)), V.val (Value.int IntKind.u32 (1 : Int)), V.val (Value.int IntKind.i32 (0 : Int)), V.val (Value.int IntKind.u32 (0 : Int)), V.mref (1 : Nat), I (-1 : Int)], Obj.nest (Nest.mp false (mE [({ data := { toList := [(121 : UInt8)] } }, { bs := a ++ r, sure := Int.ofNat (List.length a) })])) []] (I (4 : Int)) [some (Obj.box [I (1000 : Int), I (Int.ofNat (List.length a + List.length r)), V.val (Value.int IntKind.u32 (1 : Int)), V.val (Value.int IntKind.i32 (0 : Int)), V.val (Value.int IntKind.u32 (0 : Int)), V.mref (1 : Nat), I (-1 : Int)]), some (Obj.nest (Nest.mp false (mE [({ data := { toList := [(121 : UInt8)] } }, { bs := a ++ r, sure := Int.ofNat (List.length a) })])) [])],
      Contract Try.prog (19 : Nat) [V.ptr (0 : Nat) (0 : Nat) (0 : Nat) (0 : Nat), Sg { data := { toList := [(121 : UInt8)] } }, Sg { data := { toList := [] } }] [Obj.box [I (1000 : Int), I (Int.ofNat (List.length a + List.length r)), V.val (Value.int IntKind.u32 (1 : Int)), V.val (Value.int IntKind.i32 (0 : Int)), V.val (Value.int IntKind.u32 (0 : Int)), V.mref (1 : Nat), I (-1 : Int)], Obj.nest (Nest.mp false (mE [({ data := { toList := [(121 : UInt8)] } }, { bs := a ++ r, sure := Int.ofNat (List.length a) })])) []] (I (1 : Int)) [some (Obj.box [I (1000 : Int), I (Int.ofNat (List.length a + List.length r)), V.val (Value.int IntKind.u32 (1 : Int)), V.val (Value.int IntKind.i32 (0 : Int)), V.val (Value.int IntKind.u32 (0 : Int)), V.mref (1 : Nat), I (-1 : Int)]), some (Obj.nest (Nest.mp false (mE [({ data := { toList := [(121 : UInt8)] } }, { bs := a ++ r, sure := Int.ofNat (List.length a) })])) [])],
      Contract Try.prog (15 : Nat) [V.ptr (0 : Nat) (0 : Nat) (0 : Nat) (0 : Nat)] [Obj.box [I (1000 : Int), I (Int.ofNat (List.length a + List.length r)), V.val (Value.int IntKind.u32 (1 : Int)), V.val (Value.int IntKind.i32 (0 : Int)), V.val (Value.int IntKind.u32 (0 : Int)), V.mref (1 : Nat), I (-1 : Int)], Obj.nest (Nest.mp false (mE [({ data := { toList := [(121 : UInt8)] } }, { bs := a ++ r, sure := Int.ofNat (List.length a) })])) []] (V.sl (3 : Nat) [[Sg { data := { toList := [(121 : UInt8)] } }, V.sl (1 : Nat) (List.map bR (a ++ r)), I (Int.ofNat (List.length a))]]) [some (Obj.box [I (1000 : Int), I (Int.ofNat (List.length a + List.length r)), V.val (Value.int IntKind.u32 (1 : Int)), V.val (Value.int IntKind.i32 (0 : Int)), V.val (Value.int IntKind.u32 (0 : Int)), V.mref (1 : Nat), I (-1 : Int)]), some (Obj.nest (Nest.mp false (mE [({ data := { toList := [(121 : UInt8)] } }, { bs := a ++ r, sure := Int.ofNat (List.length a) })])) [])],
      Contract Try.prog (17 : Nat) [V.ptr (0 : Nat) (0 : Nat) (0 : Nat) (0 : Nat), V.sl (1 : Nat) [[I (0 : Int)]]] [Obj.box [I (1000 : Int), I (Int.ofNat (List.length a + List.length r)), V.val (Value.int IntKind.u32 (1 : Int)), V.val (Value.int IntKind.i32 (0 : Int)), V.val (Value.int IntKind.u32 (0 : Int)), V.mref (1 : Nat), I (-1 : Int)], Obj.nest (Nest.mp false (mE [({ data := { toList := [(121 : UInt8)] } }, { bs := a ++ r, sure := Int.ofNat (List.length a) })])) []] (V.tup []) [some (Obj.box [I (1000 : Int), I (Int.ofNat (List.length a)), V.val (Value.int IntKind.u32 (1 : Int)), V.val (Value.int IntKind.i32 (0 : Int)), V.val (Value.int IntKind.u32 (0 : Int)), V.mref (1 : Nat), I (-1 : Int)]), some (Obj.nest (Nest.mp false (mE [({ data := { toList := [(121 : UInt8)] } }, { bs := a, sure := Int.ofNat (List.length a) })])) [])],
      true = true,
      true = true,
      ∀ (c0 : Inn), List.Mem c0 [Fi.inn { bs := a, sure := Int.ofNat (List.length a) }] → Inn.flat c0,
      Contract Try.prog (18 : Nat) [V.ptr (0 : Nat) (0 : Nat) (0 : Nat) (0 : Nat), Sg { data := { toList := [(121 : UInt8)] } }] [Obj.box [I (1000 : Int), I (Int.ofNat (List.length a)), V.val (Value.int IntKind.u32 (1 : Int)), V.val (Value.int IntKind.i32 (0 : Int)), V.val (Value.int IntKind.u32 (0 : Int)), V.mref (1 : Nat), I (-1 : Int)], Obj.nest (Nest.mp false (mE [({ data := { toList := [(121 : UInt8)] } }, { bs := a, sure := Int.ofNat (List.length a) })])) []] (V.tup [V.sl (1 : Nat) (List.map bR a), Bo true]) [some (Obj.box [I (1000 : Int), I (Int.ofNat (List.length a)), V.val (Value.int IntKind.u32 (1 : Int)), V.val (Value.int IntKind.i32 (0 : Int)), V.val (Value.int IntKind.u32 (0 : Int)), V.mref (1 : Nat), I (-1 : Int)]), some (Obj.nest (Nest.mp false (mE [({ data := { toList := [(121 : UInt8)] } }, { bs := a, sure := Int.ofNat (List.length a) })])) [])],
      Contract Try.prog (13 : Nat) [I (0 : Int)] [] (I (0 : Int)) [],
      Contract Try.prog (13 : Nat) [I (4 : Int)] [] (I (4 : Int)) [],
      Contract Try.prog (13 : Nat) [I (1 : Int)] [] (I (1 : Int)) [],
      (0 : Int) ≤ (0 : Int),
      (0 : Int) < (1 : Int),
      true = true,
      (0 : Int) ≤ (0 : Int),
      (0 : Int) < (1 : Int),
      (Int.ofNat (List.length a) == Int.ofNat (List.length (List.map bR a))) = true,
      (0 : Int) ≤ (0 : Int),
      (0 : Int) < (1 : Int),
      List.map bR (a ++ r) = strRows { data := { toList := a ++ r } },
      List.map bR a = strRows { data := { toList := a } },
      List.map bR r = strRows { data := { toList := r } },
      ByteArray.size { data := { toList := a } } + ByteArray.size { data := { toList := r } } ≤ (9223372036854775807 : Nat),
      (ByteArray.toList { data := { toList := a ++ r } } == ByteArray.toList { data := { toList := a ++ r } }) = true,
      List.map bR a = strRows { data := { toList := a } },
      List.map bR a = strRows { data := { toList := a } },
      (ByteArray.toList { data := { toList := a } } == ByteArray.toList { data := { toList := a } }) = true] (by kernel_rfl)
    (by
      simp only [allP]
      and_intros <;> first
        | omega
        | exact cAlive
        | exact cNewP 1000 (by decide)
        | exact nmK1 h1
        | exact nmK2 h1
        | exact nmK3 h1 h3
        | exact nmK4 h1 h2 h3
        | exact nmK5 h1 h2 h3
        | exact nmK7 h1 h3
        | exact nmK8 h1 h3
        | exact nmK9 h1 h3
        | exact nmC h1 h3
        | exact nmK0 h1
        | exact flat1 _
        | exact cNum 0
        | exact cNum 4
        | exact cNum 1
        | exact strRows_bR _
        | exact nm_eq a r
        | (simp [ByteArray.size]; omega)
        | (simp; done))

theorem nmA (a b r : List UInt8) (h1 : a.length ≤ 200) (h2 : b.length ≤ 200) (h3 : r.length ≤ 200) : Contract Try.prog 6 [.sl 1 (a.map bR), .sl 1 (b.map bR), .sl 1 (r.map bR), Bo true] [] (Bo true) [] := by
  exact Contract.cast (by
    first
      | rfl) (by
    first
      | rfl) (nmA_0 a b r h1 h2 h3 )

theorem nmB_0 (a b r : List UInt8) (h1 : a.length ≤ 200) (h2 : b.length ≤ 200) (h3 : r.length ≤ 200) : Contract Try.prog 6 [.sl 1 (a.map bR), .sl 1 (b.map bR), .sl 1 (r.map bR), Bo false] [] (Bo true) ([]) :=
  vcP hmix [.reg 1 [(0, [.call [] [] (Bo true) []], none)], .reg 2 [(5, [], some false), (10, [], some false), (15, [], some false)], .reg 4 [(0, [.call [] [] (.ptr 0 0 0 0) [some ((⟨1000, 0, true, [], -1⟩ : Dv).box 1), some (⟨1000, 0, true, [], -1⟩ : Dv).map]], none)], .reg 7 [(2, [.call [801001, 801002] [] (I 0) [some ((one 1000 (a.length) ⟨#[120]⟩ (a) (0) (-1)).box 2), none, some (one 1000 (a.length) ⟨#[120]⟩ (a) (0) (-1)).map]], none)], .reg 8 [(1, [.call [801001, 1403001] [] (I 0) [some ((one 1000 (a.length) ⟨#[120]⟩ (a) (((a.length : Nat) : Int)) (-1)).box 1), some (one 1000 (a.length) ⟨#[120]⟩ (a) (((a.length : Nat) : Int)) (-1)).map]], none)], .reg 9 [(2, [.call [801001, 1403001] [] (I 0) [some ((one 1000 (a.length + r.length) ⟨#[120]⟩ (a ++ r) (((a.length : Nat) : Int)) (-1)).box 2), none, some (one 1000 (a.length + r.length) ⟨#[120]⟩ (a ++ r) (((a.length : Nat) : Int)) (-1)).map]], none)], .reg 12 [(1, [.call [801001, 1803001] [] (I 0) [some ((one 1000 (a.length + r.length) ⟨#[121]⟩ (a ++ r) (((a.length : Nat) : Int)) (-1)).box 1), some (one 1000 (a.length + r.length) ⟨#[121]⟩ (a ++ r) (((a.length : Nat) : Int)) (-1)).map]], none)], .reg 13 [(1, [.call [801001, 1803001] [] (I 4) [some ((one 1000 (a.length + r.length) ⟨#[121]⟩ (a ++ r) (((a.length : Nat) : Int)) (-1)).box 1), some (one 1000 (a.length + r.length) ⟨#[121]⟩ (a ++ r) (((a.length : Nat) : Int)) (-1)).map]], none)], .reg 14 [(1, [.call [801001, 1803001] [] (I 1) [some ((one 1000 (a.length + r.length) ⟨#[121]⟩ (a ++ r) (((a.length : Nat) : Int)) (-1)).box 1), some (one 1000 (a.length + r.length) ⟨#[121]⟩ (a ++ r) (((a.length : Nat) : Int)) (-1)).map]], none)], .reg 15 [(1, [.call [801001, 1803001] [] (.sl 3 [[.val (.string ⟨#[121]⟩), .sl 1 ((a ++ r).map bR), I ((a.length : Nat) : Int)]]) [some ((one 1000 (a.length + r.length) ⟨#[121]⟩ (a ++ r) (((a.length : Nat) : Int)) (-1)).box 1), some (one 1000 (a.length + r.length) ⟨#[121]⟩ (a ++ r) (((a.length : Nat) : Int)) (-1)).map]], none)], .reg 16 [(2, [.call [801001, 1803001] [] (.tup []) [some ((one 1000 (a.length) ⟨#[121]⟩ (a) (((a.length : Nat) : Int)) (-1)).box 1), some (one 1000 (a.length) ⟨#[121]⟩ (a) (((a.length : Nat) : Int)) (-1)).map]], none)], .reg 17 [(1, [.call [801001, 1803001] [] (.tup [.sl 1 (a.map bR), Bo true]) [some ((one 1000 (a.length) ⟨#[121]⟩ (a) (((a.length : Nat) : Int)) (-1)).box 1), some (one 1000 (a.length) ⟨#[121]⟩ (a) (((a.length : Nat) : Int)) (-1)).map]], none)], .reg 18 [(1, [.call [] [] (I 0) []], none), (5, [.call [] [] (I 4) []], none), (10, [.call [] [] (I 1) []], none), (23, [], some true), (32, [], some true), (39, [.str ⟨(a ++ r).toArray⟩], none), (41, [.str ⟨a.toArray⟩], none), (43, [.str ⟨r.toArray⟩], none), (44, [.idx 0], none), (45, [], some true), (52, [.str ⟨a.toArray⟩], none), (54, [.str ⟨a.toArray⟩], none), (55, [], some true)]] [] [
      Contract Try.prog (8 : Nat) [] [] (Bo true) [],
      decide (Int.ofNat (List.length (List.map bR a)) > (200 : Int)) = false,
      decide (Int.ofNat (List.length (List.map bR b)) > (200 : Int)) = false,
      decide (Int.ofNat (List.length (List.map bR r)) > (200 : Int)) = false,
      Contract Try.prog (9 : Nat) [I (1000 : Int)] [] (V.ptr (0 : Nat) (0 : Nat) (0 : Nat) (0 : Nat)) [some (Obj.box [I (1000 : Int), I (0 : Int), V.val (Value.int IntKind.u32 (0 : Int)), V.val (Value.int IntKind.i32 (0 : Int)), V.val (Value.int IntKind.u32 (0 : Int)), V.mref (1 : Nat), I (-1 : Int)]), some (Obj.nest (Nest.mp true (mE [])) [])],
      Contract Try.prog (10 : Nat) [V.ptr (0 : Nat) (0 : Nat) (0 : Nat) (0 : Nat), Sg { data := { toList := [(120 : UInt8)] } }, V.sl (1 : Nat) (List.map bR a)] [Obj.box [I (1000 : Int), I (0 : Int), V.val (Value.int IntKind.u32 (0 : Int)), V.val (Value.int IntKind.i32 (0 : Int)), V.val (Value.int IntKind.u32 (0 : Int)), V.mref (1 : Nat), I (-1 : Int)], Obj.nest (Nest.mp true (mE [])) []] (I (0 : Int)) [some (Obj.box [I (1000 : Int), I (Int.ofNat (List.length a)), V.val (Value.int IntKind.u32 (1 : Int)), V.val (Value.int IntKind.i32 (0 : Int)), V.val (Value.int IntKind.u32 (0 : Int)), V.mref (2 : Nat), I (-1 : Int)]), none, some (Obj.nest (Nest.mp false (mE [({ data := { toList := [(120 : UInt8)] } }, { bs := a, sure := (0 : Int) })])) [])],
      Contract Try.prog (12 : Nat) [V.ptr (0 : Nat) (0 : Nat) (0 : Nat) (0 : Nat), Sg { data := { toList := [(120 : UInt8)] } }] [Obj.box [I (1000 : Int), I (Int.ofNat (List.length a)), V.val (Value.int IntKind.u32 (1 : Int)), V.val (Value.int IntKind.i32 (0 : Int)), V.val (Value.int IntKind.u32 (0 : Int)), V.mref (1 : Nat), I (-1 : Int)], Obj.nest (Nest.mp false (mE [({ data := { toList := [(120 : UInt8)] } }, { bs := a, sure := (0 : Int) })])) []] (I (0 : Int)) [some (Obj.box [I (1000 : Int), I (Int.ofNat (List.length a)), V.val (Value.int IntKind.u32 (1 : Int)), V.val (Value.int IntKind.i32 (0 : Int)), V.val (Value.int IntKind.u32 (0 : Int)), V.mref (1 : Nat), I (-1 : Int)]), some (Obj.nest (Nest.mp false (mE [({ data := { toList := [(120 : UInt8)] } }, { bs := a, sure := Int.ofNat (List.length a) })])) [])],
      Contract Try.prog (10 : Nat) [V.ptr (0 : Nat) (0 : Nat) (0 : Nat) (0 : Nat), Sg { data := { toList := [(120 : UInt8)] } }, V.sl (1 : Nat) (List.map bR r)] [Obj.box [I (1000 : Int), I (Int.ofNat (List.length a)), V.val (Value.int IntKind.u32 (1 : Int)), V.val (Value.int IntKind.i32 (0 : Int)), V.val (Value.int IntKind.u32 (0 : Int)), V.mref (1 : Nat), I (-1 : Int)], Obj.nest (Nest.mp false (mE [({ data := { toList := [(120 : UInt8)] } }, { bs := a, sure := Int.ofNat (List.length a) })])) []] (I (0 : Int)) [some (Obj.box [I (1000 : Int), I (Int.ofNat (List.length a + List.length r)), V.val (Value.int IntKind.u32 (1 : Int)), V.val (Value.int IntKind.i32 (0 : Int)), V.val (Value.int IntKind.u32 (0 : Int)), V.mref (2 : Nat), I (-1 : Int)]), none, some (Obj.nest (Nest.mp false (mE [({ data := { toList := [(120 : UInt8)] } }, { bs := a ++ r, sure := Int.ofNat (List.length a) })])) [])],
      Contract Try.prog (19 : Nat) [V.ptr (0 : Nat) (0 : Nat) (0 : Nat) (0 : Nat), Sg { data := { toList := [(120 : UInt8)] } }, Sg { data := { toList := [(121 : UInt8)] } }] [Obj.box [I (1000 : Int), I (Int.ofNat (List.length a + List.length r)), V.val (Value.int IntKind.u32 (1 : Int)), V.val (Value.int IntKind.i32 (0 : Int)), V.val (Value.int IntKind.u32 (0 : Int)), V.mref (1 : Nat), I (-1 : Int)], Obj.nest (Nest.mp false (mE [({ data := { toList := [(120 : UInt8)] } }, { bs := a ++ r, sure := Int.ofNat (List.length a) })])) []] (I (0 : Int)) [some (Obj.box [I (1000 : Int), I (Int.ofNat (List.length a + List.length r)), V.val (Value.int IntKind.u32 (1 : Int)), V.val (Value.int IntKind.i32 (0 : Int)), V.val (Value.int IntKind.u32 (0 : Int)), V.mref (1 : Nat), I (-1 : Int)]), some (Obj.nest (Nest.mp false (mE [({ data := { toList := [(121 : UInt8)] } }, { bs := a ++ r, sure := Int.ofNat (List.length a) })])) [])],
      Contract Try.prog (19 : Nat) [V.ptr (0 : Nat) (0 : Nat) (0 : Nat) (0 : Nat), Sg { data := { toList := [(120 : UInt8)] } }, Sg { data := { toList := [(122 : UInt8)] } }] [Obj.box [I (1000 : Int), I (Int.ofNat (List.length a + List.length r)), V.val (Value.int IntKind.u32 (1 : Int)), V.val (Value.int IntKind.i32 (0 : Int)), V.val (Value.int IntKind.u32 (0 : Int)), V.mref (1 : Nat), I (-1 : Int)], Obj.nest (Nest.mp false (mE [({ data := { toList := [(121 : UInt8)] } }, { bs := a ++ r, sure := Int.ofNat (List.length a) })])) []] (I (4 : Int)) [some (Obj.box [I (1000 : Int), I (Int.ofNat (List.length a + List.length r)), V.val (Value.int IntKind.u32 (1 : Int)), V.val (Value.int IntKind.i32 (0 : Int)), V.val (Value.int IntKind.u32 (0 : Int)), V.mref (1 : Nat), I (-1 : Int)]), some (Obj.nest (Nest.mp false (mE [({ data := { toList := [(121 : UInt8)] } }, { bs := a ++ r, sure := Int.ofNat (List.length a) })])) [])],
      Contract Try.prog (19 : Nat) [V.ptr (0 : Nat) (0 : Nat) (0 : Nat) (0 : Nat), Sg { data := { toList := [(121 : UInt8)] } }, Sg { data := { toList := [] } }] [Obj.box [I (1000 : Int), I (Int.ofNat (List.length a + List.length r)), V.val (Value.int IntKind.u32 (1 : Int)), V.val (Value.int IntKind.i32 (0 : Int)), V.val (Value.int IntKind.u32 (0 : Int)), V.mref (1 : Nat), I (-1 : Int)], Obj.nest (Nest.mp false (mE [({ data := { toList := [(121 : UInt8)] } }, { bs := a ++ r, sure := Int.ofNat (List.length a) })])) []] (I (1 : Int)) [some (Obj.box [I (1000 : Int), I (Int.ofNat (List.length a + List.length r)), V.val (Value.int IntKind.u32 (1 : Int)), V.val (Value.int IntKind.i32 (0 : Int)), V.val (Value.int IntKind.u32 (0 : Int)), V.mref (1 : Nat), I (-1 : Int)]), some (Obj.nest (Nest.mp false (mE [({ data := { toList := [(121 : UInt8)] } }, { bs := a ++ r, sure := Int.ofNat (List.length a) })])) [])],
      Contract Try.prog (15 : Nat) [V.ptr (0 : Nat) (0 : Nat) (0 : Nat) (0 : Nat)] [Obj.box [I (1000 : Int), I (Int.ofNat (List.length a + List.length r)), V.val (Value.int IntKind.u32 (1 : Int)), V.val (Value.int IntKind.i32 (0 : Int)), V.val (Value.int IntKind.u32 (0 : Int)), V.mref (1 : Nat), I (-1 : Int)], Obj.nest (Nest.mp false (mE [({ data := { toList := [(121 : UInt8)] } }, { bs := a ++ r, sure := Int.ofNat (List.length a) })])) []] (V.sl (3 : Nat) [[Sg { data := { toList := [(121 : UInt8)] } }, V.sl (1 : Nat) (List.map bR (a ++ r)), I (Int.ofNat (List.length a))]]) [some (Obj.box [I (1000 : Int), I (Int.ofNat (List.length a + List.length r)), V.val (Value.int IntKind.u32 (1 : Int)), V.val (Value.int IntKind.i32 (0 : Int)), V.val (Value.int IntKind.u32 (0 : Int)), V.mref (1 : Nat), I (-1 : Int)]), some (Obj.nest (Nest.mp false (mE [({ data := { toList := [(121 : UInt8)] } }, { bs := a ++ r, sure := Int.ofNat (List.length a) })])) [])],
      Contract Try.prog (17 : Nat) [V.ptr (0 : Nat) (0 : Nat) (0 : Nat) (0 : Nat), V.sl (1 : Nat) [[I (0 : Int)]]] [Obj.box [I (1000 : Int), I (Int.ofNat (List.length a + List.length r)), V.val (Value.int IntKind.u32 (1 : Int)), V.val (Value.int IntKind.i32 (0 : Int)), V.val (Value.int IntKind.u32 (0 : Int)), V.mref (1 : Nat), I (-1 : Int)], Obj.nest (Nest.mp false (mE [({ data := { toList := [(121 : UInt8)] } }, { bs := a ++ r, sure := Int.ofNat (List.length a) })])) []] (V.tup []) [some (Obj.box [I (1000 : Int), I (Int.ofNat (List.length a)), V.val (Value.int IntKind.u32 (1 : Int)), V.val (Value.int IntKind.i32 (0 : Int)), V.val (Value.int IntKind.u32 (0 : Int)), V.mref (1 : Nat), I (-1 : Int)]), some (Obj.nest (Nest.mp false (mE [({ data := { toList := [(121 : UInt8)] } }, { bs := a, sure := Int.ofNat (List.length a) })])) [])],
      true = true,
      true = true,
      ∀ (c0 : Inn), List.Mem c0 [Fi.inn { bs := a, sure := Int.ofNat (List.length a) }] → Inn.flat c0,
      Contract Try.prog (18 : Nat) [V.ptr (0 : Nat) (0 : Nat) (0 : Nat) (0 : Nat), Sg { data := { toList := [(121 : UInt8)] } }] [Obj.box [I (1000 : Int), I (Int.ofNat (List.length a)), V.val (Value.int IntKind.u32 (1 : Int)), V.val (Value.int IntKind.i32 (0 : Int)), V.val (Value.int IntKind.u32 (0 : Int)), V.mref (1 : Nat), I (-1 : Int)], Obj.nest (Nest.mp false (mE [({ data := { toList := [(121 : UInt8)] } }, { bs := a, sure := Int.ofNat (List.length a) })])) []] (V.tup [V.sl (1 : Nat) (List.map bR a), Bo true]) [some (Obj.box [I (1000 : Int), I (Int.ofNat (List.length a)), V.val (Value.int IntKind.u32 (1 : Int)), V.val (Value.int IntKind.i32 (0 : Int)), V.val (Value.int IntKind.u32 (0 : Int)), V.mref (1 : Nat), I (-1 : Int)]), some (Obj.nest (Nest.mp false (mE [({ data := { toList := [(121 : UInt8)] } }, { bs := a, sure := Int.ofNat (List.length a) })])) [])],
      Contract Try.prog (13 : Nat) [I (0 : Int)] [] (I (0 : Int)) [],
      Contract Try.prog (13 : Nat) [I (4 : Int)] [] (I (4 : Int)) [],
      Contract Try.prog (13 : Nat) [I (1 : Int)] [] (I (1 : Int)) [],
      (0 : Int) ≤ (0 : Int),
      (0 : Int) < (1 : Int),
      true = true,
      (0 : Int) ≤ (0 : Int),
      (0 : Int) < (1 : Int),
      (Int.ofNat (List.length a) == Int.ofNat (List.length (List.map bR a))) = true,
      (0 : Int) ≤ (0 : Int),
      (0 : Int) < (1 : Int),
      List.map bR (a ++ r) = strRows { data := { toList := a ++ r } },
      List.map bR a = strRows { data := { toList := a } },
      List.map bR r = strRows { data := { toList := r } },
      ByteArray.size { data := { toList := a } } + ByteArray.size { data := { toList := r } } ≤ (9223372036854775807 : Nat),
      (ByteArray.toList { data := { toList := a ++ r } } == ByteArray.toList { data := { toList := a ++ r } }) = true,
      List.map bR a = strRows { data := { toList := a } },
      List.map bR a = strRows { data := { toList := a } },
      (ByteArray.toList { data := { toList := a } } == ByteArray.toList { data := { toList := a } }) = true] (by kernel_rfl)
    (by
      simp only [allP]
      and_intros <;> first
        | omega
        | exact cAlive
        | exact cNewP 1000 (by decide)
        | exact nmK1 h1
        | exact nmK2 h1
        | exact nmK3 h1 h3
        | exact nmK6 h1 h3
        | exact nmK7 h1 h3
        | exact nmK8 h1 h3
        | exact nmK9 h1 h3
        | exact nmC h1 h3
        | exact nmK0 h1
        | exact flat1 _
        | exact cNum 0
        | exact cNum 4
        | exact cNum 1
        | exact strRows_bR _
        | exact nm_eq a r
        | (simp [ByteArray.size]; omega)
        | (simp; done))

theorem nmB (a b r : List UInt8) (h1 : a.length ≤ 200) (h2 : b.length ≤ 200) (h3 : r.length ≤ 200) : Contract Try.prog 6 [.sl 1 (a.map bR), .sl 1 (b.map bR), .sl 1 (r.map bR), Bo false] [] (Bo true) [] := by
  exact Contract.cast (by
    first
      | rfl) (by
    first
      | rfl) (nmB_0 a b r h1 h2 h3 )

theorem cDeviceNames (a b r : List UInt8) (t : Bool) : Contract Try.prog 6 [.sl 1 (a.map bR), .sl 1 (b.map bR), .sl 1 (r.map bR), Bo t] [] (Bo true) [] := by
  by_cases h1 : 200 < a.length
  · exact nmX0 a b r t h1
  by_cases h2 : 200 < b.length
  · exact nmX1 a b r t (by omega) h2
  by_cases h3 : 200 < r.length
  · exact nmX2 a b r t (by omega) (by omega) h3
  cases t with
  | true => exact nmA a b r (by omega) (by omega) (by omega)
  | false => exact nmB a b r (by omega) (by omega) (by omega)
open Go.ChangeShapes Go.WideShapes Go.ChangeAt Go.RowKit
theorem typed_all {α : Type} {f : α → List V} {rows : List (List V)} (h : ∀ r ∈ rows, ∃ e : α, r = f e) : ∃ es : List α, rows = es.map f := by
  induction rows with
  | nil => exact ⟨[], rfl⟩
  | cons r rows ih =>
    obtain ⟨e, rfl⟩ := h r (by simp)
    obtain ⟨es, rfl⟩ := ih fun r hr => h r (by simp [hr])
    exact ⟨e :: es, rfl⟩
theorem typed_b {r : List V} {B d : Nat} (h : Typed Try.prog B (d + 1) 5 r) : ∃ b : UInt8, r = bR b := by
  obtain ⟨n, rfl, hn⟩ := typed_int Try.underlying5 h
  simp [Lit.wf, IntKind.min, IntKind.max, IntKind.signed, IntKind.bits] at hn
  refine ⟨UInt8.ofNat n.toNat, ?_⟩
  have : ((UInt8.ofNat n.toNat).toNat : Int) = n := by simp; omega
  simp only [bR, intRow, this]
theorem own : ownKnob Try.prog.godebug = none := by kernel_rfl
theorem laidOut : laidOutB Try.prog = true := by kernel_rfl
theorem deviceNames_lifted (os : Os) (started : os.Started) (H : Type) (enc : TypeId × Value → H) :
    ReturnsInHanded {} Try.checked os 6 .any (Rows.deviceNamesSpec.pre6 enc Try.prog Try.f6 Rows.deviceNamesRow.domain false) (Rows.deviceNamesSpec.post enc Try.prog Try.f6 false true false false) := by
  refine returnsInHanded_of_change (C := Try.checked) own started (by kernel_rfl) Try.func6
    (ChangeSpec.witness6 (enc := enc) (C := Try.checked) false ⟨#[], #[.slice none 0 0, .slice none 0 0, .slice none 0 0, .bool false], []⟩ 8 (by kernel_rfl) (by kernel_rfl) (by kernel_rfl) (by kernel_rfl)) ?_
  intro W base args ds gs before hval hW _ _
  refine row_of (P := Try.prog) (tb := 4) laidOut rfl (by kernel_rfl) (by kernel_rfl) (by kernel_rfl) Try.underlying4 (fun ds h => ?_) (fun us h => ?_) W base args ds gs before hval hW
  · match ds, h with
    | [_, _, _, _], _ => rfl
  · obtain ⟨u0, _, rfl, h0, u1, _, rfl, h1, u2, _, rfl, h2, u3, _, rfl, h3, rfl⟩ := h
    obtain ⟨rows0, rfl, _, hr0⟩ := arg_slice Try.underlying27 h0
    obtain ⟨a, rfl⟩ := typed_all (f := bR) fun r h => typed_b (hr0 r h)
    obtain ⟨rows1, rfl, _, hr1⟩ := arg_slice Try.underlying27 h1
    obtain ⟨b, rfl⟩ := typed_all (f := bR) fun r h => typed_b (hr1 r h)
    obtain ⟨rows2, rfl, _, hr2⟩ := arg_slice Try.underlying27 h2
    obtain ⟨r, rfl⟩ := typed_all (f := bR) fun r h => typed_b (hr2 r h)
    obtain ⟨t, rfl⟩ := arg_bool Try.underlying4 h3
    exact cDeviceNames a b r t

theorem DeviceNames_proved : Rows.DeviceNamesSaid :=
  OpenClaim.holds_of_wide 6 Try.f6 rfl rfl rfl rfl rfl rfl rfl ⟨rfl, rfl, rfl, rfl, rfl⟩ rfl rfl rfl rfl rfl (by kernel_rfl) Try.func6 (by kernel_rfl)
    (of_decide_eq_true (by kernel_rfl)) (by unfold Func.isWrapper; first | (rw [if_pos (by decide +kernel)]; kernel_rfl) | (rw [if_neg (by decide +kernel)]; exact ⟨rfl, rfl⟩))
    (fun os started H enc _ => deviceNames_lifted os started H enc)
#print axioms DeviceNames_proved
end Go.Proofs.Ythmhkgddohgoeaa
