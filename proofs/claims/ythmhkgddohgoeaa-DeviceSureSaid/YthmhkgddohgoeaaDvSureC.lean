/- DeviceSure: behind a crash all that was sure is there, and of the rest a beginning. -/
import Derived.Test.YthmhkgddohgoeaaDvSureP4
import Derived.Test.YthmhkgddohgoeaaRows
namespace Go.Proofs.Ythmhkgddohgoeaa
open E
set_option maxRecDepth 100000
set_option linter.unusedVariables false
set_option linter.unusedSimpArgs false

theorem suX0_0 (a r : List UInt8) (p : Int) (h1 : 200 < a.length) : Contract Try.prog 5 [.sl 1 (a.map bR), .sl 1 (r.map bR), I p] [] (Bo true) ([]) :=
  vcP hmix [.reg 1 [(0, [.call [] [] (Bo true) []], none)], .reg 2 [(5, [], some true)]] [] [
      Contract Try.prog (8 : Nat) [] [] (Bo true) [],
      decide (Int.ofNat (List.length (List.map bR a)) > (200 : Int)) = true] (by kernel_rfl)
    (by
      simp only [allP]
      and_intros <;> first
        | exact cAlive
        | (simp; omega))

theorem suX0 (a r : List UInt8) (p : Int) (h1 : 200 < a.length) : Contract Try.prog 5 [.sl 1 (a.map bR), .sl 1 (r.map bR), I p] [] (Bo true) [] := by
  exact Contract.cast (by
    first
      | rfl) (by
    first
      | rfl) (suX0_0 a r p h1 )

theorem suX1_0 (a r : List UInt8) (p : Int) (h1 : a.length ≤ 200) (h2 : 200 < r.length) : Contract Try.prog 5 [.sl 1 (a.map bR), .sl 1 (r.map bR), I p] [] (Bo true) ([]) :=
  vcP hmix [.reg 1 [(0, [.call [] [] (Bo true) []], none)], .reg 2 [(5, [], some false), (10, [], some true)]] [] [
      Contract Try.prog (8 : Nat) [] [] (Bo true) [],
      decide (Int.ofNat (List.length (List.map bR a)) > (200 : Int)) = false,
      decide (Int.ofNat (List.length (List.map bR r)) > (200 : Int)) = true] (by kernel_rfl)
    (by
      simp only [allP]
      and_intros <;> first
        | exact cAlive
        | (simp; omega))

theorem suX1 (a r : List UInt8) (p : Int) (h1 : a.length ≤ 200) (h2 : 200 < r.length) : Contract Try.prog 5 [.sl 1 (a.map bR), .sl 1 (r.map bR), I p] [] (Bo true) [] := by
  exact Contract.cast (by
    first
      | rfl) (by
    first
      | rfl) (suX1_0 a r p h1 h2 )

theorem suE {a r : List UInt8} {m : Nat} : (a ++ r).take (a.length + m) = a ++ r.take m := by rw [List.take_append, List.take_of_length_le (by omega), Nat.add_sub_cancel_left]
theorem su_ok {a : List UInt8} {s : Int} {u : Nat} {f : Int} (hu : u = a.length) (h : a.length ≤ 400) (h0 : 0 ≤ s) (hs : s ≤ a.length) (hf : f ≤ 0) : Ok (one 1000 u ⟨#[102]⟩ a s f) :=
  one_ok hu h0 (by omega) (by omega) (by decide) (by omega) ⟨by decide, by decide⟩
theorem suC {a r : List UInt8} {m : Nat} {p : Int} (h1 : a.length ≤ 200) (h2 : r.length ≤ 200) (hc : crN ⟨a ++ r, (a.length : Nat)⟩ (some p) = ((a.length + m : Nat) : Int)) :
    Contract Try.prog 17 [.ptr 0 0 0 0, .sl 1 ([p].map iR)] [(one 1000 (a.length + r.length) ⟨#[102]⟩ (a ++ r) ((a.length : Nat)) (0)).box 1, (one 1000 (a.length + r.length) ⟨#[102]⟩ (a ++ r) ((a.length : Nat)) (0)).map] (.tup []) [some ((one 1000 (a.length + m) ⟨#[102]⟩ (a ++ r.take m) (((a.length + m : Nat) : Int)) (-1)).box 1), some (one 1000 (a.length + m) ⟨#[102]⟩ (a ++ r.take m) (((a.length + m : Nat) : Int)) (-1)).map] := by
  have := one_crash (R := 1000) (u := a.length + r.length) (s := ⟨#[102]⟩) (bs := a ++ r) (sure := (a.length : Nat)) (fuse := 0) p (a.length + m) (su_ok (by simp) (by simp; omega) (by omega) (by simp; omega) (by decide)) (by simp) hc
  rwa [suE] at this
theorem sF_ne : (⟨#[102]⟩ : ByteArray).toList ≠ [] := ba_ne 102 []
theorem suK1 {a : List UInt8} (h1 : a.length ≤ 200) : Contract Try.prog 10 [.ptr 0 0 0 0, .val (.string ⟨#[102]⟩), .sl 1 (a.map bR)] [(⟨1000, 0, true, [], -1⟩ : Dv).box 1, (⟨1000, 0, true, [], -1⟩ : Dv).map] (I 0) [some ((one 1000 (a.length) ⟨#[102]⟩ (a) (0) (-1)).box 2), none, some (one 1000 (a.length) ⟨#[102]⟩ (a) (0) (-1)).map] := one_new 1000 ⟨#[102]⟩ a sF_ne (by omega) (by omega) (by decide) (by decide)
theorem suK2 {a : List UInt8} (h1 : a.length ≤ 200) : Contract Try.prog 12 [.ptr 0 0 0 0, .val (.string ⟨#[102]⟩)] [(one 1000 (a.length) ⟨#[102]⟩ (a) (0) (-1)).box 1, (one 1000 (a.length) ⟨#[102]⟩ (a) (0) (-1)).map] (I 0) [some ((one 1000 (a.length) ⟨#[102]⟩ (a) ((a.length : Nat)) (-1)).box 1), some (one 1000 (a.length) ⟨#[102]⟩ (a) ((a.length : Nat)) (-1)).map] := one_sync (su_ok rfl (by omega) (by decide) (by omega) (by decide)) rfl
theorem suK3 {a r : List UInt8} (h1 : a.length ≤ 200) (h2 : r.length ≤ 200) : Contract Try.prog 10 [.ptr 0 0 0 0, .val (.string ⟨#[102]⟩), .sl 1 (r.map bR)] [(one 1000 (a.length) ⟨#[102]⟩ (a) ((a.length : Nat)) (-1)).box 1, (one 1000 (a.length) ⟨#[102]⟩ (a) ((a.length : Nat)) (-1)).map] (I 0) [some ((one 1000 (a.length + r.length) ⟨#[102]⟩ (a ++ r) ((a.length : Nat)) (-1)).box 2), none, some (one 1000 (a.length + r.length) ⟨#[102]⟩ (a ++ r) ((a.length : Nat)) (-1)).map] := one_app r (su_ok rfl (by omega) (by omega) (by omega) (by decide)) sF_ne (by omega) (by omega) rfl
theorem suK4 {a r : List UInt8} : Contract Try.prog 11 [.ptr 0 0 0 0, I 0] [(one 1000 (a.length + r.length) ⟨#[102]⟩ (a ++ r) ((a.length : Nat)) (-1)).box 1, (one 1000 (a.length + r.length) ⟨#[102]⟩ (a ++ r) ((a.length : Nat)) (-1)).map] (.tup []) [some ((one 1000 (a.length + r.length) ⟨#[102]⟩ (a ++ r) ((a.length : Nat)) (0)).box 1), some (one 1000 (a.length + r.length) ⟨#[102]⟩ (a ++ r) ((a.length : Nat)) (0)).map] := one_fuse ..
theorem suK5 {a r : List UInt8} (h1 : a.length ≤ 200) (h2 : r.length ≤ 200) : Contract Try.prog 10 [.ptr 0 0 0 0, .val (.string ⟨#[102]⟩), .sl 1 ([120].map bR)] [(one 1000 (a.length + r.length) ⟨#[102]⟩ (a ++ r) ((a.length : Nat)) (0)).box 1, (one 1000 (a.length + r.length) ⟨#[102]⟩ (a ++ r) ((a.length : Nat)) (0)).map] (I 5) [some ((one 1000 (a.length + r.length) ⟨#[102]⟩ (a ++ r) ((a.length : Nat)) (0)).box 2), none, some (one 1000 (a.length + r.length) ⟨#[102]⟩ (a ++ r) ((a.length : Nat)) (0)).map] := one_dead [120] (su_ok (by simp) (by simp; omega) (by omega) (by simp; omega) (by decide)) (by simp; omega) (by simp)
theorem su5 {a r : List UInt8} {m : Nat} (h1 : a.length ≤ 200) (h2 : r.length ≤ 200) (hm : m ≤ r.length) : Ok (one 1000 (a.length + m) ⟨#[102]⟩ (a ++ r.take m) (((a.length + m : Nat) : Int)) (-1)) := su_ok (by simp; omega) (by simp; omega) (by omega) (by simp; omega) (by decide)
theorem suK6 {a r : List UInt8} {m : Nat} (h1 : a.length ≤ 200) (h2 : r.length ≤ 200) (hm : m ≤ r.length) : Contract Try.prog 18 [.ptr 0 0 0 0, .val (.string ⟨#[102]⟩)] [(one 1000 (a.length + m) ⟨#[102]⟩ (a ++ r.take m) (((a.length + m : Nat) : Int)) (-1)).box 1, (one 1000 (a.length + m) ⟨#[102]⟩ (a ++ r.take m) (((a.length + m : Nat) : Int)) (-1)).map] (.tup [.sl 1 ((a ++ r.take m).map bR), Bo true]) [some ((one 1000 (a.length + m) ⟨#[102]⟩ (a ++ r.take m) (((a.length + m : Nat) : Int)) (-1)).box 1), some (one 1000 (a.length + m) ⟨#[102]⟩ (a ++ r.take m) (((a.length + m : Nat) : Int)) (-1)).map] := one_read (su5 h1 h2 hm)
theorem suK7 {a r : List UInt8} {m : Nat} (h1 : a.length ≤ 200) (h2 : r.length ≤ 200) (hm : m ≤ r.length) : Contract Try.prog 15 [.ptr 0 0 0 0] [(one 1000 (a.length + m) ⟨#[102]⟩ (a ++ r.take m) (((a.length + m : Nat) : Int)) (-1)).box 1, (one 1000 (a.length + m) ⟨#[102]⟩ (a ++ r.take m) (((a.length + m : Nat) : Int)) (-1)).map] (.sl 3 [[.val (.string ⟨#[102]⟩), .sl 1 ((a ++ r.take m).map bR), I ((a.length + m : Nat) : Int)]]) [some ((one 1000 (a.length + m) ⟨#[102]⟩ (a ++ r.take m) (((a.length + m : Nat) : Int)) (-1)).box 1), some (one 1000 (a.length + m) ⟨#[102]⟩ (a ++ r.take m) (((a.length + m : Nat) : Int)) (-1)).map] := one_files (su5 h1 h2 hm)
theorem flat1 (f : Fi) : ∀ c0 : Inn, List.Mem c0 [f.inn] → c0.flat := fun c h => mE_flat [(default, f)] c h
theorem su_eq (a r : List UInt8) : ((⟨(a ++ r).toArray⟩ : ByteArray).toList == (⟨a.toArray⟩ ++ ⟨r.toArray⟩ : ByteArray).toList) = true := by rw [ba_app]; simp
theorem su_last {a : List UInt8} {u : Nat} {s : Int} (hk : Ok (one 1000 u ⟨#[102]⟩ a s (-1))) (hu : u = a.length) (h : a.length ≤ 400) :
    Contract Try.prog 10 [.ptr 0 0 0 0, .val (.string ⟨#[102]⟩), .sl 1 []] [(one 1000 u ⟨#[102]⟩ a s (-1)).box 1, (one 1000 u ⟨#[102]⟩ a s (-1)).map] (I 0) [some ((one 1000 u ⟨#[102]⟩ a s (-1)).box 2), none, some (one 1000 u ⟨#[102]⟩ a s (-1)).map] := by
  have := one_app (R := 1000) (s := ⟨#[102]⟩) [] hk sF_ne (by simp; omega) (by simp; omega) hu
  simpa using this
theorem suK8 {a r : List UInt8} {m : Nat} (h1 : a.length ≤ 200) (h2 : r.length ≤ 200) (hm : m ≤ r.length) : Contract Try.prog 10 [.ptr 0 0 0 0, .val (.string ⟨#[102]⟩), .sl 1 []] [(one 1000 (a.length + m) ⟨#[102]⟩ (a ++ r.take m) (((a.length + m : Nat) : Int)) (-1)).box 1, (one 1000 (a.length + m) ⟨#[102]⟩ (a ++ r.take m) (((a.length + m : Nat) : Int)) (-1)).map] (I 0) [some ((one 1000 (a.length + m) ⟨#[102]⟩ (a ++ r.take m) (((a.length + m : Nat) : Int)) (-1)).box 2), none, some (one 1000 (a.length + m) ⟨#[102]⟩ (a ++ r.take m) (((a.length + m : Nat) : Int)) (-1)).map] := su_last (su5 h1 h2 hm) (by simp; omega) (by simp; omega)
theorem suA_0 (a r : List UInt8) (p : Int) (m : Nat) (h1 : a.length ≤ 200) (h2 : r.length ≤ 200) (hm : m ≤ r.length) (hc : crN ⟨a ++ r, (a.length : Nat)⟩ (some p) = ((a.length + m : Nat) : Int)) (hp : p < 0) (hm0 : m = 0) : Contract Try.prog 5 [.sl 1 (a.map bR), .sl 1 (r.map bR), I p] [] (Bo true) ([]) :=
  vcP hmix [.reg 1 [(0, [.call [] [] (Bo true) []], none)], .reg 2 [(5, [], some false), (10, [], some false)], .reg 4 [(0, [.call [] [] (.ptr 0 0 0 0) [some ((⟨1000, 0, true, [], -1⟩ : Dv).box 1), some (⟨1000, 0, true, [], -1⟩ : Dv).map]], none)], .reg 7 [(2, [.call [801001, 801002] [] (I 0) [some ((one 1000 (a.length) ⟨#[102]⟩ (a) (0) (-1)).box 2), none, some (one 1000 (a.length) ⟨#[102]⟩ (a) (0) (-1)).map]], none)], .reg 8 [(1, [.call [801001, 1403001] [] (I 0) [some ((one 1000 (a.length) ⟨#[102]⟩ (a) ((a.length : Nat)) (-1)).box 1), some (one 1000 (a.length) ⟨#[102]⟩ (a) ((a.length : Nat)) (-1)).map]], none)], .reg 9 [(2, [.call [801001, 1403001] [] (I 0) [some ((one 1000 (a.length + r.length) ⟨#[102]⟩ (a ++ r) ((a.length : Nat)) (-1)).box 2), none, some (one 1000 (a.length + r.length) ⟨#[102]⟩ (a ++ r) ((a.length : Nat)) (-1)).map]], none)], .reg 10 [(1, [.call [801001, 1803001] [] (.tup []) [some ((one 1000 (a.length + r.length) ⟨#[102]⟩ (a ++ r) ((a.length : Nat)) (0)).box 1), some (one 1000 (a.length + r.length) ⟨#[102]⟩ (a ++ r) ((a.length : Nat)) (0)).map]], none)], .reg 11 [(3, [.call [801001, 1803001] [] (I 5) [some ((one 1000 (a.length + r.length) ⟨#[102]⟩ (a ++ r) ((a.length : Nat)) (0)).box 2), none, some (one 1000 (a.length + r.length) ⟨#[102]⟩ (a ++ r) ((a.length : Nat)) (0)).map]], none)], .reg 12 [(3, [.call [801001, 2204001] [] (.tup []) [some ((one 1000 (a.length + m) ⟨#[102]⟩ (a ++ r.take m) (((a.length + m : Nat) : Int)) (-1)).box 1), some (one 1000 (a.length + m) ⟨#[102]⟩ (a ++ r.take m) (((a.length + m : Nat) : Int)) (-1)).map]], none)], .reg 14 [(1, [], some true)], .reg 16 [(3, [], some false)], .reg 18 [(1, [.call [801001, 2204001] [] (.tup [.sl 1 ((a ++ r.take m).map bR), Bo true]) [some ((one 1000 (a.length + m) ⟨#[102]⟩ (a ++ r.take m) (((a.length + m : Nat) : Int)) (-1)).box 1), some (one 1000 (a.length + m) ⟨#[102]⟩ (a ++ r.take m) (((a.length + m : Nat) : Int)) (-1)).map]], none)], .reg 19 [(1, [.call [801001, 2204001] [] (.sl 3 [[.val (.string ⟨#[102]⟩), .sl 1 ((a ++ r.take m).map bR), I ((a.length + m : Nat) : Int)]]) [some ((one 1000 (a.length + m) ⟨#[102]⟩ (a ++ r.take m) (((a.length + m : Nat) : Int)) (-1)).box 1), some (one 1000 (a.length + m) ⟨#[102]⟩ (a ++ r.take m) (((a.length + m : Nat) : Int)) (-1)).map]], none)], .reg 20 [(1, [.call [801001, 2204001] [] (I 0) [some ((one 1000 (a.length + m) ⟨#[102]⟩ (a ++ r.take m) (((a.length + m : Nat) : Int)) (-1)).box 2), none, some (one 1000 (a.length + m) ⟨#[102]⟩ (a ++ r.take m) (((a.length + m : Nat) : Int)) (-1)).map]], none)], .reg 21 [(1, [.call [] [] (I 5) []], none), (8, [.str ⟨(a ++ r.take m).toArray⟩], none), (10, [.str ⟨a.toArray⟩], none), (13, [.be (.sl 1 ((r.take m).map bR))], none), (14, [.str ⟨(r.take m).toArray⟩], none), (15, [.idx 0], none), (16, [], some true), (30, [], some true), (34, [.call [] [] (I 0) []], none)]] [] [
      Contract Try.prog (8 : Nat) [] [] (Bo true) [],
      decide (Int.ofNat (List.length (List.map bR a)) > (200 : Int)) = false,
      decide (Int.ofNat (List.length (List.map bR r)) > (200 : Int)) = false,
      Contract Try.prog (9 : Nat) [I (1000 : Int)] [] (V.ptr (0 : Nat) (0 : Nat) (0 : Nat) (0 : Nat)) [some (Obj.box [I (1000 : Int), I (0 : Int), V.val (Value.int IntKind.u32 (0 : Int)), V.val (Value.int IntKind.i32 (0 : Int)), V.val (Value.int IntKind.u32 (0 : Int)), V.mref (1 : Nat), I (-1 : Int)]), some (Obj.nest (Nest.mp true (mE [])) [])],
      Contract Try.prog (10 : Nat) [V.ptr (0 : Nat) (0 : Nat) (0 : Nat) (0 : Nat), Sg { data := { toList := [(102 : UInt8)] } }, V.sl (1 : Nat) (List.map bR a)] [Obj.box [I (1000 : Int), I (0 : Int), V.val (Value.int IntKind.u32 (0 : Int)), V.val (Value.int IntKind.i32 (0 : Int)), V.val (Value.int IntKind.u32 (0 : Int)), V.mref (1 : Nat), I (-1 : Int)], Obj.nest (Nest.mp true (mE [])) []] (I (0 : Int)) [some (Obj.box [I (1000 : Int), I (Int.ofNat (List.length a)), V.val (Value.int IntKind.u32 (1 : Int)), V.val (Value.int IntKind.i32 (0 : Int)), V.val (Value.int IntKind.u32 (0 : Int)), V.mref (2 : Nat), I (-1 : Int)]), none, some (Obj.nest (Nest.mp false (mE [({ data := { toList := [(102 : UInt8)] } }, { bs := a, sure := (0 : Int) })])) [])],
      Contract Try.prog (12 : Nat) [V.ptr (0 : Nat) (0 : Nat) (0 : Nat) (0 : Nat), Sg { data := { toList := [(102 : UInt8)] } }] [Obj.box [I (1000 : Int), I (Int.ofNat (List.length a)), V.val (Value.int IntKind.u32 (1 : Int)), V.val (Value.int IntKind.i32 (0 : Int)), V.val (Value.int IntKind.u32 (0 : Int)), V.mref (1 : Nat), I (-1 : Int)], Obj.nest (Nest.mp false (mE [({ data := { toList := [(102 : UInt8)] } }, { bs := a, sure := (0 : Int) })])) []] (I (0 : Int)) [some (Obj.box [I (1000 : Int), I (Int.ofNat (List.length a)), V.val (Value.int IntKind.u32 (1 : Int)), V.val (Value.int IntKind.i32 (0 : Int)), V.val (Value.int IntKind.u32 (0 : Int)), V.mref (1 : Nat), I (-1 : Int)]), some (Obj.nest (Nest.mp false (mE [({ data := { toList := [(102 : UInt8)] } }, { bs := a, sure := Int.ofNat (List.length a) })])) [])],
      Contract Try.prog (10 : Nat) [V.ptr (0 : Nat) (0 : Nat) (0 : Nat) (0 : Nat), Sg { data := { toList := [(102 : UInt8)] } }, V.sl (1 : Nat) (List.map bR r)] [Obj.box [I (1000 : Int), I (Int.ofNat (List.length a)), V.val (Value.int IntKind.u32 (1 : Int)), V.val (Value.int IntKind.i32 (0 : Int)), V.val (Value.int IntKind.u32 (0 : Int)), V.mref (1 : Nat), I (-1 : Int)], Obj.nest (Nest.mp false (mE [({ data := { toList := [(102 : UInt8)] } }, { bs := a, sure := Int.ofNat (List.length a) })])) []] (I (0 : Int)) [some (Obj.box [I (1000 : Int), I (Int.ofNat (List.length a + List.length r)), V.val (Value.int IntKind.u32 (1 : Int)), V.val (Value.int IntKind.i32 (0 : Int)), V.val (Value.int IntKind.u32 (0 : Int)), V.mref (2 : Nat), I (-1 : Int)]), none, some (Obj.nest (Nest.mp false (mE [({ data := { toList := [(102 : UInt8)] } }, { bs := a ++ r, sure := Int.ofNat (List.length a) })])) [])],
      Contract Try.prog (11 : Nat) [V.ptr (0 : Nat) (0 : Nat) (0 : Nat) (0 : Nat), I (0 : Int)] [Obj.box [I (1000 : Int), I (Int.ofNat (List.length a + List.length r)), V.val (Value.int IntKind.u32 (1 : Int)), V.val (Value.int IntKind.i32 (0 : Int)), V.val (Value.int IntKind.u32 (0 : Int)), V.mref (1 : Nat), I (-1 : Int)], Obj.nest (Nest.mp false (mE [({ data := { toList := [(102 : UInt8)] } }, { bs := a ++ r, sure := Int.ofNat (List.length a) })])) []] (V.tup []) [some (Obj.box [I (1000 : Int), I (Int.ofNat (List.length a + List.length r)), V.val (Value.int IntKind.u32 (1 : Int)), V.val (Value.int IntKind.i32 (0 : Int)), V.val (Value.int IntKind.u32 (0 : Int)), V.mref (1 : Nat), I (0 : Int)]), some (Obj.nest (Nest.mp false (mE [({ data := { toList := [(102 : UInt8)] } }, { bs := a ++ r, sure := Int.ofNat (List.length a) })])) [])],
      [[V.val (Value.int IntKind.u8 (120 : Int))]] ≠ [],
      Contract Try.prog (10 : Nat) [V.ptr (0 : Nat) (0 : Nat) (0 : Nat) (0 : Nat), Sg { data := { toList := [(102 : UInt8)] } }, V.sl (1 : Nat) [[V.val (Value.int IntKind.u8 (120 : Int))]]] [Obj.box [I (1000 : Int), I (Int.ofNat (List.length a + List.length r)), V.val (Value.int IntKind.u32 (1 : Int)), V.val (Value.int IntKind.i32 (0 : Int)), V.val (Value.int IntKind.u32 (0 : Int)), V.mref (1 : Nat), I (0 : Int)], Obj.nest (Nest.mp false (mE [({ data := { toList := [(102 : UInt8)] } }, { bs := a ++ r, sure := Int.ofNat (List.length a) })])) []] (I (5 : Int)) [some (Obj.box [I (1000 : Int), I (Int.ofNat (List.length a + List.length r)), V.val (Value.int IntKind.u32 (1 : Int)), V.val (Value.int IntKind.i32 (0 : Int)), V.val (Value.int IntKind.u32 (0 : Int)), V.mref (2 : Nat), I (0 : Int)]), none, some (Obj.nest (Nest.mp false (mE [({ data := { toList := [(102 : UInt8)] } }, { bs := a ++ r, sure := Int.ofNat (List.length a) })])) [])],
      Contract Try.prog (17 : Nat) [V.ptr (0 : Nat) (0 : Nat) (0 : Nat) (0 : Nat), V.sl (1 : Nat) [[I p]]] [Obj.box [I (1000 : Int), I (Int.ofNat (List.length a + List.length r)), V.val (Value.int IntKind.u32 (1 : Int)), V.val (Value.int IntKind.i32 (0 : Int)), V.val (Value.int IntKind.u32 (0 : Int)), V.mref (1 : Nat), I (0 : Int)], Obj.nest (Nest.mp false (mE [({ data := { toList := [(102 : UInt8)] } }, { bs := a ++ r, sure := Int.ofNat (List.length a) })])) []] (V.tup []) [some (Obj.box [I (1000 : Int), I (Int.ofNat (List.length a + m)), V.val (Value.int IntKind.u32 (1 : Int)), V.val (Value.int IntKind.i32 (0 : Int)), V.val (Value.int IntKind.u32 (0 : Int)), V.mref (1 : Nat), I (-1 : Int)]), some (Obj.nest (Nest.mp false (mE [({ data := { toList := [(102 : UInt8)] } }, { bs := a ++ List.take m r, sure := Int.ofNat (List.length a + m) })])) [])],
      true = true,
      true = true,
      ∀ (c0 : Inn), List.Mem c0 [Fi.inn { bs := a ++ List.take m r, sure := Int.ofNat (List.length a + m) }] → Inn.flat c0,
      decide (p < (0 : Int)) = true,
      false = false,
      Contract Try.prog (18 : Nat) [V.ptr (0 : Nat) (0 : Nat) (0 : Nat) (0 : Nat), Sg { data := { toList := [(102 : UInt8)] } }] [Obj.box [I (1000 : Int), I (Int.ofNat (List.length a + m)), V.val (Value.int IntKind.u32 (1 : Int)), V.val (Value.int IntKind.i32 (0 : Int)), V.val (Value.int IntKind.u32 (0 : Int)), V.mref (1 : Nat), I (-1 : Int)], Obj.nest (Nest.mp false (mE [({ data := { toList := [(102 : UInt8)] } }, { bs := a ++ List.take m r, sure := Int.ofNat (List.length a + m) })])) []] (V.tup [V.sl (1 : Nat) (List.map bR (a ++ List.take m r)), Bo true]) [some (Obj.box [I (1000 : Int), I (Int.ofNat (List.length a + m)), V.val (Value.int IntKind.u32 (1 : Int)), V.val (Value.int IntKind.i32 (0 : Int)), V.val (Value.int IntKind.u32 (0 : Int)), V.mref (1 : Nat), I (-1 : Int)]), some (Obj.nest (Nest.mp false (mE [({ data := { toList := [(102 : UInt8)] } }, { bs := a ++ List.take m r, sure := Int.ofNat (List.length a + m) })])) [])],
      Contract Try.prog (15 : Nat) [V.ptr (0 : Nat) (0 : Nat) (0 : Nat) (0 : Nat)] [Obj.box [I (1000 : Int), I (Int.ofNat (List.length a + m)), V.val (Value.int IntKind.u32 (1 : Int)), V.val (Value.int IntKind.i32 (0 : Int)), V.val (Value.int IntKind.u32 (0 : Int)), V.mref (1 : Nat), I (-1 : Int)], Obj.nest (Nest.mp false (mE [({ data := { toList := [(102 : UInt8)] } }, { bs := a ++ List.take m r, sure := Int.ofNat (List.length a + m) })])) []] (V.sl (3 : Nat) [[Sg { data := { toList := [(102 : UInt8)] } }, V.sl (1 : Nat) (List.map bR (a ++ List.take m r)), I (Int.ofNat (List.length a + m))]]) [some (Obj.box [I (1000 : Int), I (Int.ofNat (List.length a + m)), V.val (Value.int IntKind.u32 (1 : Int)), V.val (Value.int IntKind.i32 (0 : Int)), V.val (Value.int IntKind.u32 (0 : Int)), V.mref (1 : Nat), I (-1 : Int)]), some (Obj.nest (Nest.mp false (mE [({ data := { toList := [(102 : UInt8)] } }, { bs := a ++ List.take m r, sure := Int.ofNat (List.length a + m) })])) [])],
      Contract Try.prog (10 : Nat) [V.ptr (0 : Nat) (0 : Nat) (0 : Nat) (0 : Nat), Sg { data := { toList := [(102 : UInt8)] } }, V.sl (1 : Nat) []] [Obj.box [I (1000 : Int), I (Int.ofNat (List.length a + m)), V.val (Value.int IntKind.u32 (1 : Int)), V.val (Value.int IntKind.i32 (0 : Int)), V.val (Value.int IntKind.u32 (0 : Int)), V.mref (1 : Nat), I (-1 : Int)], Obj.nest (Nest.mp false (mE [({ data := { toList := [(102 : UInt8)] } }, { bs := a ++ List.take m r, sure := Int.ofNat (List.length a + m) })])) []] (I (0 : Int)) [some (Obj.box [I (1000 : Int), I (Int.ofNat (List.length a + m)), V.val (Value.int IntKind.u32 (1 : Int)), V.val (Value.int IntKind.i32 (0 : Int)), V.val (Value.int IntKind.u32 (0 : Int)), V.mref (2 : Nat), I (-1 : Int)]), none, some (Obj.nest (Nest.mp false (mE [({ data := { toList := [(102 : UInt8)] } }, { bs := a ++ List.take m r, sure := Int.ofNat (List.length a + m) })])) [])],
      Contract Try.prog (13 : Nat) [I (5 : Int)] [] (I (5 : Int)) [],
      List.map bR (a ++ List.take m r) = strRows { data := { toList := a ++ List.take m r } },
      List.map bR a = strRows { data := { toList := a } },
      (0 : Int) ≤ (0 : Int),
      (0 : Int) ≤ (0 : Int),
      (0 : Int) ≤ Int.ofNat (List.length (List.map bR r)),
      [] = List.map bR (List.take m r),
      List.map bR (List.take m r) = strRows { data := { toList := List.take m r } },
      ByteArray.size { data := { toList := a } } + ByteArray.size { data := { toList := List.take m r } } ≤ (9223372036854775807 : Nat),
      (ByteArray.toList { data := { toList := a ++ List.take m r } } == ByteArray.toList { data := { toList := a ++ List.take m r } }) = true,
      (0 : Int) ≤ (0 : Int),
      (0 : Int) < (1 : Int),
      (Int.ofNat (List.length a + m) == Int.ofNat (List.length (List.map bR (a ++ List.take m r)))) = true,
      Contract Try.prog (13 : Nat) [I (0 : Int)] [] (I (0 : Int)) []] (by kernel_rfl)
    (by
      simp only [allP]
      and_intros <;> first
        | omega
        | exact cAlive
        | exact cNewP 1000 (by decide)
        | exact suK1 h1
        | exact suK2 h1
        | exact suK3 h1 h2
        | exact suK4
        | exact suK5 h1 h2
        | exact suC h1 h2 hc
        | exact suK6 h1 h2 hm
        | exact suK7 h1 h2 hm
        | exact suK8 h1 h2 hm
        | exact flat1 _
        | exact cNum 5
        | exact cNum 0
        | exact strRows_bR _
        | exact su_eq a (r.take m)
        | exact List.cons_ne_nil _ _
        | (simp [hm0]; done)
        | (simp [ByteArray.size]; omega))

theorem suA (a r : List UInt8) (p : Int) (m : Nat) (h1 : a.length ≤ 200) (h2 : r.length ≤ 200) (hm : m ≤ r.length) (hc : crN ⟨a ++ r, (a.length : Nat)⟩ (some p) = ((a.length + m : Nat) : Int)) (hp : p < 0) (hm0 : m = 0) : Contract Try.prog 5 [.sl 1 (a.map bR), .sl 1 (r.map bR), I p] [] (Bo true) [] := by
  exact Contract.cast (by
    first
      | rfl) (by
    first
      | rfl) (suA_0 a r p m h1 h2 hm hc hp hm0 )

theorem suB_0 (a r : List UInt8) (p : Int) (m : Nat) (h1 : a.length ≤ 200) (h2 : r.length ≤ 200) (hm : m ≤ r.length) (hc : crN ⟨a ++ r, (a.length : Nat)⟩ (some p) = ((a.length + m : Nat) : Int)) (hp : 0 ≤ p) (hp2 : p ≤ r.length) (hm0 : (m : Int) = p) : Contract Try.prog 5 [.sl 1 (a.map bR), .sl 1 (r.map bR), I p] [] (Bo true) ([]) :=
  vcP hmix [.reg 1 [(0, [.call [] [] (Bo true) []], none)], .reg 2 [(5, [], some false), (10, [], some false)], .reg 4 [(0, [.call [] [] (.ptr 0 0 0 0) [some ((⟨1000, 0, true, [], -1⟩ : Dv).box 1), some (⟨1000, 0, true, [], -1⟩ : Dv).map]], none)], .reg 7 [(2, [.call [801001, 801002] [] (I 0) [some ((one 1000 (a.length) ⟨#[102]⟩ (a) (0) (-1)).box 2), none, some (one 1000 (a.length) ⟨#[102]⟩ (a) (0) (-1)).map]], none)], .reg 8 [(1, [.call [801001, 1403001] [] (I 0) [some ((one 1000 (a.length) ⟨#[102]⟩ (a) ((a.length : Nat)) (-1)).box 1), some (one 1000 (a.length) ⟨#[102]⟩ (a) ((a.length : Nat)) (-1)).map]], none)], .reg 9 [(2, [.call [801001, 1403001] [] (I 0) [some ((one 1000 (a.length + r.length) ⟨#[102]⟩ (a ++ r) ((a.length : Nat)) (-1)).box 2), none, some (one 1000 (a.length + r.length) ⟨#[102]⟩ (a ++ r) ((a.length : Nat)) (-1)).map]], none)], .reg 10 [(1, [.call [801001, 1803001] [] (.tup []) [some ((one 1000 (a.length + r.length) ⟨#[102]⟩ (a ++ r) ((a.length : Nat)) (0)).box 1), some (one 1000 (a.length + r.length) ⟨#[102]⟩ (a ++ r) ((a.length : Nat)) (0)).map]], none)], .reg 11 [(3, [.call [801001, 1803001] [] (I 5) [some ((one 1000 (a.length + r.length) ⟨#[102]⟩ (a ++ r) ((a.length : Nat)) (0)).box 2), none, some (one 1000 (a.length + r.length) ⟨#[102]⟩ (a ++ r) ((a.length : Nat)) (0)).map]], none)], .reg 12 [(3, [.call [801001, 2204001] [] (.tup []) [some ((one 1000 (a.length + m) ⟨#[102]⟩ (a ++ r.take m) (((a.length + m : Nat) : Int)) (-1)).box 1), some (one 1000 (a.length + m) ⟨#[102]⟩ (a ++ r.take m) (((a.length + m : Nat) : Int)) (-1)).map]], none)], .reg 14 [(1, [], some false)], .reg 16 [(3, [], some false)], .reg 18 [(1, [.call [801001, 2204001] [] (.tup [.sl 1 ((a ++ r.take m).map bR), Bo true]) [some ((one 1000 (a.length + m) ⟨#[102]⟩ (a ++ r.take m) (((a.length + m : Nat) : Int)) (-1)).box 1), some (one 1000 (a.length + m) ⟨#[102]⟩ (a ++ r.take m) (((a.length + m : Nat) : Int)) (-1)).map]], none)], .reg 19 [(1, [.call [801001, 2204001] [] (.sl 3 [[.val (.string ⟨#[102]⟩), .sl 1 ((a ++ r.take m).map bR), I ((a.length + m : Nat) : Int)]]) [some ((one 1000 (a.length + m) ⟨#[102]⟩ (a ++ r.take m) (((a.length + m : Nat) : Int)) (-1)).box 1), some (one 1000 (a.length + m) ⟨#[102]⟩ (a ++ r.take m) (((a.length + m : Nat) : Int)) (-1)).map]], none)], .reg 20 [(1, [.call [801001, 2204001] [] (I 0) [some ((one 1000 (a.length + m) ⟨#[102]⟩ (a ++ r.take m) (((a.length + m : Nat) : Int)) (-1)).box 2), none, some (one 1000 (a.length + m) ⟨#[102]⟩ (a ++ r.take m) (((a.length + m : Nat) : Int)) (-1)).map]], none)], .reg 21 [(1, [.call [] [] (I 5) []], none), (8, [.str ⟨(a ++ r.take m).toArray⟩], none), (10, [.str ⟨a.toArray⟩], none), (13, [.be (.sl 1 ((r.take m).map bR))], none), (14, [.str ⟨(r.take m).toArray⟩], none), (15, [.idx 0], none), (16, [], some true), (30, [], some true), (34, [.call [] [] (I 0) []], none)]] [] [
      Contract Try.prog (8 : Nat) [] [] (Bo true) [],
      decide (Int.ofNat (List.length (List.map bR a)) > (200 : Int)) = false,
      decide (Int.ofNat (List.length (List.map bR r)) > (200 : Int)) = false,
      Contract Try.prog (9 : Nat) [I (1000 : Int)] [] (V.ptr (0 : Nat) (0 : Nat) (0 : Nat) (0 : Nat)) [some (Obj.box [I (1000 : Int), I (0 : Int), V.val (Value.int IntKind.u32 (0 : Int)), V.val (Value.int IntKind.i32 (0 : Int)), V.val (Value.int IntKind.u32 (0 : Int)), V.mref (1 : Nat), I (-1 : Int)]), some (Obj.nest (Nest.mp true (mE [])) [])],
      Contract Try.prog (10 : Nat) [V.ptr (0 : Nat) (0 : Nat) (0 : Nat) (0 : Nat), Sg { data := { toList := [(102 : UInt8)] } }, V.sl (1 : Nat) (List.map bR a)] [Obj.box [I (1000 : Int), I (0 : Int), V.val (Value.int IntKind.u32 (0 : Int)), V.val (Value.int IntKind.i32 (0 : Int)), V.val (Value.int IntKind.u32 (0 : Int)), V.mref (1 : Nat), I (-1 : Int)], Obj.nest (Nest.mp true (mE [])) []] (I (0 : Int)) [some (Obj.box [I (1000 : Int), I (Int.ofNat (List.length a)), V.val (Value.int IntKind.u32 (1 : Int)), V.val (Value.int IntKind.i32 (0 : Int)), V.val (Value.int IntKind.u32 (0 : Int)), V.mref (2 : Nat), I (-1 : Int)]), none, some (Obj.nest (Nest.mp false (mE [({ data := { toList := [(102 : UInt8)] } }, { bs := a, sure := (0 : Int) })])) [])],
      Contract Try.prog (12 : Nat) [V.ptr (0 : Nat) (0 : Nat) (0 : Nat) (0 : Nat), Sg { data := { toList := [(102 : UInt8)] } }] [Obj.box [I (1000 : Int), I (Int.ofNat (List.length a)), V.val (Value.int IntKind.u32 (1 : Int)), V.val (Value.int IntKind.i32 (0 : Int)), V.val (Value.int IntKind.u32 (0 : Int)), V.mref (1 : Nat), I (-1 : Int)], Obj.nest (Nest.mp false (mE [({ data := { toList := [(102 : UInt8)] } }, { bs := a, sure := (0 : Int) })])) []] (I (0 : Int)) [some (Obj.box [I (1000 : Int), I (Int.ofNat (List.length a)), V.val (Value.int IntKind.u32 (1 : Int)), V.val (Value.int IntKind.i32 (0 : Int)), V.val (Value.int IntKind.u32 (0 : Int)), V.mref (1 : Nat), I (-1 : Int)]), some (Obj.nest (Nest.mp false (mE [({ data := { toList := [(102 : UInt8)] } }, { bs := a, sure := Int.ofNat (List.length a) })])) [])],
      Contract Try.prog (10 : Nat) [V.ptr (0 : Nat) (0 : Nat) (0 : Nat) (0 : Nat), Sg { data := { toList := [(102 : UInt8)] } }, V.sl (1 : Nat) (List.map bR r)] [Obj.box [I (1000 : Int), I (Int.ofNat (List.length a)), V.val (Value.int IntKind.u32 (1 : Int)), V.val (Value.int IntKind.i32 (0 : Int)), V.val (Value.int IntKind.u32 (0 : Int)), V.mref (1 : Nat), I (-1 : Int)], Obj.nest (Nest.mp false (mE [({ data := { toList := [(102 : UInt8)] } }, { bs := a, sure := Int.ofNat (List.length a) })])) []] (I (0 : Int)) [some (Obj.box [I (1000 : Int), I (Int.ofNat (List.length a + List.length r)), V.val (Value.int IntKind.u32 (1 : Int)), V.val (Value.int IntKind.i32 (0 : Int)), V.val (Value.int IntKind.u32 (0 : Int)), V.mref (2 : Nat), I (-1 : Int)]), none, some (Obj.nest (Nest.mp false (mE [({ data := { toList := [(102 : UInt8)] } }, { bs := a ++ r, sure := Int.ofNat (List.length a) })])) [])],
      Contract Try.prog (11 : Nat) [V.ptr (0 : Nat) (0 : Nat) (0 : Nat) (0 : Nat), I (0 : Int)] [Obj.box [I (1000 : Int), I (Int.ofNat (List.length a + List.length r)), V.val (Value.int IntKind.u32 (1 : Int)), V.val (Value.int IntKind.i32 (0 : Int)), V.val (Value.int IntKind.u32 (0 : Int)), V.mref (1 : Nat), I (-1 : Int)], Obj.nest (Nest.mp false (mE [({ data := { toList := [(102 : UInt8)] } }, { bs := a ++ r, sure := Int.ofNat (List.length a) })])) []] (V.tup []) [some (Obj.box [I (1000 : Int), I (Int.ofNat (List.length a + List.length r)), V.val (Value.int IntKind.u32 (1 : Int)), V.val (Value.int IntKind.i32 (0 : Int)), V.val (Value.int IntKind.u32 (0 : Int)), V.mref (1 : Nat), I (0 : Int)]), some (Obj.nest (Nest.mp false (mE [({ data := { toList := [(102 : UInt8)] } }, { bs := a ++ r, sure := Int.ofNat (List.length a) })])) [])],
      [[V.val (Value.int IntKind.u8 (120 : Int))]] ≠ [],
      Contract Try.prog (10 : Nat) [V.ptr (0 : Nat) (0 : Nat) (0 : Nat) (0 : Nat), Sg { data := { toList := [(102 : UInt8)] } }, V.sl (1 : Nat) [[V.val (Value.int IntKind.u8 (120 : Int))]]] [Obj.box [I (1000 : Int), I (Int.ofNat (List.length a + List.length r)), V.val (Value.int IntKind.u32 (1 : Int)), V.val (Value.int IntKind.i32 (0 : Int)), V.val (Value.int IntKind.u32 (0 : Int)), V.mref (1 : Nat), I (0 : Int)], Obj.nest (Nest.mp false (mE [({ data := { toList := [(102 : UInt8)] } }, { bs := a ++ r, sure := Int.ofNat (List.length a) })])) []] (I (5 : Int)) [some (Obj.box [I (1000 : Int), I (Int.ofNat (List.length a + List.length r)), V.val (Value.int IntKind.u32 (1 : Int)), V.val (Value.int IntKind.i32 (0 : Int)), V.val (Value.int IntKind.u32 (0 : Int)), V.mref (2 : Nat), I (0 : Int)]), none, some (Obj.nest (Nest.mp false (mE [({ data := { toList := [(102 : UInt8)] } }, { bs := a ++ r, sure := Int.ofNat (List.length a) })])) [])],
      Contract Try.prog (17 : Nat) [V.ptr (0 : Nat) (0 : Nat) (0 : Nat) (0 : Nat), V.sl (1 : Nat) [[I p]]] [Obj.box [I (1000 : Int), I (Int.ofNat (List.length a + List.length r)), V.val (Value.int IntKind.u32 (1 : Int)), V.val (Value.int IntKind.i32 (0 : Int)), V.val (Value.int IntKind.u32 (0 : Int)), V.mref (1 : Nat), I (0 : Int)], Obj.nest (Nest.mp false (mE [({ data := { toList := [(102 : UInt8)] } }, { bs := a ++ r, sure := Int.ofNat (List.length a) })])) []] (V.tup []) [some (Obj.box [I (1000 : Int), I (Int.ofNat (List.length a + m)), V.val (Value.int IntKind.u32 (1 : Int)), V.val (Value.int IntKind.i32 (0 : Int)), V.val (Value.int IntKind.u32 (0 : Int)), V.mref (1 : Nat), I (-1 : Int)]), some (Obj.nest (Nest.mp false (mE [({ data := { toList := [(102 : UInt8)] } }, { bs := a ++ List.take m r, sure := Int.ofNat (List.length a + m) })])) [])],
      true = true,
      true = true,
      ∀ (c0 : Inn), List.Mem c0 [Fi.inn { bs := a ++ List.take m r, sure := Int.ofNat (List.length a + m) }] → Inn.flat c0,
      decide (p < (0 : Int)) = false,
      decide (p > Int.ofNat (List.length (List.map bR r))) = false,
      Contract Try.prog (18 : Nat) [V.ptr (0 : Nat) (0 : Nat) (0 : Nat) (0 : Nat), Sg { data := { toList := [(102 : UInt8)] } }] [Obj.box [I (1000 : Int), I (Int.ofNat (List.length a + m)), V.val (Value.int IntKind.u32 (1 : Int)), V.val (Value.int IntKind.i32 (0 : Int)), V.val (Value.int IntKind.u32 (0 : Int)), V.mref (1 : Nat), I (-1 : Int)], Obj.nest (Nest.mp false (mE [({ data := { toList := [(102 : UInt8)] } }, { bs := a ++ List.take m r, sure := Int.ofNat (List.length a + m) })])) []] (V.tup [V.sl (1 : Nat) (List.map bR (a ++ List.take m r)), Bo true]) [some (Obj.box [I (1000 : Int), I (Int.ofNat (List.length a + m)), V.val (Value.int IntKind.u32 (1 : Int)), V.val (Value.int IntKind.i32 (0 : Int)), V.val (Value.int IntKind.u32 (0 : Int)), V.mref (1 : Nat), I (-1 : Int)]), some (Obj.nest (Nest.mp false (mE [({ data := { toList := [(102 : UInt8)] } }, { bs := a ++ List.take m r, sure := Int.ofNat (List.length a + m) })])) [])],
      Contract Try.prog (15 : Nat) [V.ptr (0 : Nat) (0 : Nat) (0 : Nat) (0 : Nat)] [Obj.box [I (1000 : Int), I (Int.ofNat (List.length a + m)), V.val (Value.int IntKind.u32 (1 : Int)), V.val (Value.int IntKind.i32 (0 : Int)), V.val (Value.int IntKind.u32 (0 : Int)), V.mref (1 : Nat), I (-1 : Int)], Obj.nest (Nest.mp false (mE [({ data := { toList := [(102 : UInt8)] } }, { bs := a ++ List.take m r, sure := Int.ofNat (List.length a + m) })])) []] (V.sl (3 : Nat) [[Sg { data := { toList := [(102 : UInt8)] } }, V.sl (1 : Nat) (List.map bR (a ++ List.take m r)), I (Int.ofNat (List.length a + m))]]) [some (Obj.box [I (1000 : Int), I (Int.ofNat (List.length a + m)), V.val (Value.int IntKind.u32 (1 : Int)), V.val (Value.int IntKind.i32 (0 : Int)), V.val (Value.int IntKind.u32 (0 : Int)), V.mref (1 : Nat), I (-1 : Int)]), some (Obj.nest (Nest.mp false (mE [({ data := { toList := [(102 : UInt8)] } }, { bs := a ++ List.take m r, sure := Int.ofNat (List.length a + m) })])) [])],
      Contract Try.prog (10 : Nat) [V.ptr (0 : Nat) (0 : Nat) (0 : Nat) (0 : Nat), Sg { data := { toList := [(102 : UInt8)] } }, V.sl (1 : Nat) []] [Obj.box [I (1000 : Int), I (Int.ofNat (List.length a + m)), V.val (Value.int IntKind.u32 (1 : Int)), V.val (Value.int IntKind.i32 (0 : Int)), V.val (Value.int IntKind.u32 (0 : Int)), V.mref (1 : Nat), I (-1 : Int)], Obj.nest (Nest.mp false (mE [({ data := { toList := [(102 : UInt8)] } }, { bs := a ++ List.take m r, sure := Int.ofNat (List.length a + m) })])) []] (I (0 : Int)) [some (Obj.box [I (1000 : Int), I (Int.ofNat (List.length a + m)), V.val (Value.int IntKind.u32 (1 : Int)), V.val (Value.int IntKind.i32 (0 : Int)), V.val (Value.int IntKind.u32 (0 : Int)), V.mref (2 : Nat), I (-1 : Int)]), none, some (Obj.nest (Nest.mp false (mE [({ data := { toList := [(102 : UInt8)] } }, { bs := a ++ List.take m r, sure := Int.ofNat (List.length a + m) })])) [])],
      Contract Try.prog (13 : Nat) [I (5 : Int)] [] (I (5 : Int)) [],
      List.map bR (a ++ List.take m r) = strRows { data := { toList := a ++ List.take m r } },
      List.map bR a = strRows { data := { toList := a } },
      (0 : Int) ≤ (0 : Int),
      (0 : Int) ≤ p,
      p ≤ Int.ofNat (List.length (List.map bR r)),
      List.take (Int.toNat p) (List.map bR r) = List.map bR (List.take m r),
      List.map bR (List.take m r) = strRows { data := { toList := List.take m r } },
      ByteArray.size { data := { toList := a } } + ByteArray.size { data := { toList := List.take m r } } ≤ (9223372036854775807 : Nat),
      (ByteArray.toList { data := { toList := a ++ List.take m r } } == ByteArray.toList { data := { toList := a ++ List.take m r } }) = true,
      (0 : Int) ≤ (0 : Int),
      (0 : Int) < (1 : Int),
      (Int.ofNat (List.length a + m) == Int.ofNat (List.length (List.map bR (a ++ List.take m r)))) = true,
      Contract Try.prog (13 : Nat) [I (0 : Int)] [] (I (0 : Int)) []] (by kernel_rfl)
    (by
      simp only [allP]
      and_intros <;> first
        | omega
        | exact cAlive
        | exact cNewP 1000 (by decide)
        | exact suK1 h1
        | exact suK2 h1
        | exact suK3 h1 h2
        | exact suK4
        | exact suK5 h1 h2
        | exact suC h1 h2 hc
        | exact suK6 h1 h2 hm
        | exact suK7 h1 h2 hm
        | exact suK8 h1 h2 hm
        | exact flat1 _
        | exact cNum 5
        | exact cNum 0
        | exact strRows_bR _
        | exact su_eq a (r.take m)
        | exact List.cons_ne_nil _ _
        | (simp [hm0]; done)
        | (simp [ByteArray.size]; omega))

theorem suB (a r : List UInt8) (p : Int) (m : Nat) (h1 : a.length ≤ 200) (h2 : r.length ≤ 200) (hm : m ≤ r.length) (hc : crN ⟨a ++ r, (a.length : Nat)⟩ (some p) = ((a.length + m : Nat) : Int)) (hp : 0 ≤ p) (hp2 : p ≤ r.length) (hm0 : (m : Int) = p) : Contract Try.prog 5 [.sl 1 (a.map bR), .sl 1 (r.map bR), I p] [] (Bo true) [] := by
  exact Contract.cast (by
    first
      | rfl) (by
    first
      | rfl) (suB_0 a r p m h1 h2 hm hc hp hp2 hm0 )

theorem suD_0 (a r : List UInt8) (p : Int) (m : Nat) (h1 : a.length ≤ 200) (h2 : r.length ≤ 200) (hm : m ≤ r.length) (hc : crN ⟨a ++ r, (a.length : Nat)⟩ (some p) = ((a.length + m : Nat) : Int)) (hp : (r.length : Int) < p) (hm0 : m = r.length) : Contract Try.prog 5 [.sl 1 (a.map bR), .sl 1 (r.map bR), I p] [] (Bo true) ([]) :=
  vcP hmix [.reg 1 [(0, [.call [] [] (Bo true) []], none)], .reg 2 [(5, [], some false), (10, [], some false)], .reg 4 [(0, [.call [] [] (.ptr 0 0 0 0) [some ((⟨1000, 0, true, [], -1⟩ : Dv).box 1), some (⟨1000, 0, true, [], -1⟩ : Dv).map]], none)], .reg 7 [(2, [.call [801001, 801002] [] (I 0) [some ((one 1000 (a.length) ⟨#[102]⟩ (a) (0) (-1)).box 2), none, some (one 1000 (a.length) ⟨#[102]⟩ (a) (0) (-1)).map]], none)], .reg 8 [(1, [.call [801001, 1403001] [] (I 0) [some ((one 1000 (a.length) ⟨#[102]⟩ (a) ((a.length : Nat)) (-1)).box 1), some (one 1000 (a.length) ⟨#[102]⟩ (a) ((a.length : Nat)) (-1)).map]], none)], .reg 9 [(2, [.call [801001, 1403001] [] (I 0) [some ((one 1000 (a.length + r.length) ⟨#[102]⟩ (a ++ r) ((a.length : Nat)) (-1)).box 2), none, some (one 1000 (a.length + r.length) ⟨#[102]⟩ (a ++ r) ((a.length : Nat)) (-1)).map]], none)], .reg 10 [(1, [.call [801001, 1803001] [] (.tup []) [some ((one 1000 (a.length + r.length) ⟨#[102]⟩ (a ++ r) ((a.length : Nat)) (0)).box 1), some (one 1000 (a.length + r.length) ⟨#[102]⟩ (a ++ r) ((a.length : Nat)) (0)).map]], none)], .reg 11 [(3, [.call [801001, 1803001] [] (I 5) [some ((one 1000 (a.length + r.length) ⟨#[102]⟩ (a ++ r) ((a.length : Nat)) (0)).box 2), none, some (one 1000 (a.length + r.length) ⟨#[102]⟩ (a ++ r) ((a.length : Nat)) (0)).map]], none)], .reg 12 [(3, [.call [801001, 2204001] [] (.tup []) [some ((one 1000 (a.length + m) ⟨#[102]⟩ (a ++ r.take m) (((a.length + m : Nat) : Int)) (-1)).box 1), some (one 1000 (a.length + m) ⟨#[102]⟩ (a ++ r.take m) (((a.length + m : Nat) : Int)) (-1)).map]], none)], .reg 14 [(1, [], some false)], .reg 16 [(3, [], some true)], .reg 18 [(1, [.call [801001, 2204001] [] (.tup [.sl 1 ((a ++ r.take m).map bR), Bo true]) [some ((one 1000 (a.length + m) ⟨#[102]⟩ (a ++ r.take m) (((a.length + m : Nat) : Int)) (-1)).box 1), some (one 1000 (a.length + m) ⟨#[102]⟩ (a ++ r.take m) (((a.length + m : Nat) : Int)) (-1)).map]], none)], .reg 19 [(1, [.call [801001, 2204001] [] (.sl 3 [[.val (.string ⟨#[102]⟩), .sl 1 ((a ++ r.take m).map bR), I ((a.length + m : Nat) : Int)]]) [some ((one 1000 (a.length + m) ⟨#[102]⟩ (a ++ r.take m) (((a.length + m : Nat) : Int)) (-1)).box 1), some (one 1000 (a.length + m) ⟨#[102]⟩ (a ++ r.take m) (((a.length + m : Nat) : Int)) (-1)).map]], none)], .reg 20 [(1, [.call [801001, 2204001] [] (I 0) [some ((one 1000 (a.length + m) ⟨#[102]⟩ (a ++ r.take m) (((a.length + m : Nat) : Int)) (-1)).box 2), none, some (one 1000 (a.length + m) ⟨#[102]⟩ (a ++ r.take m) (((a.length + m : Nat) : Int)) (-1)).map]], none)], .reg 21 [(1, [.call [] [] (I 5) []], none), (8, [.str ⟨(a ++ r.take m).toArray⟩], none), (10, [.str ⟨a.toArray⟩], none), (13, [.be (.sl 1 ((r.take m).map bR))], none), (14, [.str ⟨(r.take m).toArray⟩], none), (15, [.idx 0], none), (16, [], some true), (30, [], some true), (34, [.call [] [] (I 0) []], none)]] [] [
      Contract Try.prog (8 : Nat) [] [] (Bo true) [],
      decide (Int.ofNat (List.length (List.map bR a)) > (200 : Int)) = false,
      decide (Int.ofNat (List.length (List.map bR r)) > (200 : Int)) = false,
      Contract Try.prog (9 : Nat) [I (1000 : Int)] [] (V.ptr (0 : Nat) (0 : Nat) (0 : Nat) (0 : Nat)) [some (Obj.box [I (1000 : Int), I (0 : Int), V.val (Value.int IntKind.u32 (0 : Int)), V.val (Value.int IntKind.i32 (0 : Int)), V.val (Value.int IntKind.u32 (0 : Int)), V.mref (1 : Nat), I (-1 : Int)]), some (Obj.nest (Nest.mp true (mE [])) [])],
      Contract Try.prog (10 : Nat) [V.ptr (0 : Nat) (0 : Nat) (0 : Nat) (0 : Nat), Sg { data := { toList := [(102 : UInt8)] } }, V.sl (1 : Nat) (List.map bR a)] [Obj.box [I (1000 : Int), I (0 : Int), V.val (Value.int IntKind.u32 (0 : Int)), V.val (Value.int IntKind.i32 (0 : Int)), V.val (Value.int IntKind.u32 (0 : Int)), V.mref (1 : Nat), I (-1 : Int)], Obj.nest (Nest.mp true (mE [])) []] (I (0 : Int)) [some (Obj.box [I (1000 : Int), I (Int.ofNat (List.length a)), V.val (Value.int IntKind.u32 (1 : Int)), V.val (Value.int IntKind.i32 (0 : Int)), V.val (Value.int IntKind.u32 (0 : Int)), V.mref (2 : Nat), I (-1 : Int)]), none, some (Obj.nest (Nest.mp false (mE [({ data := { toList := [(102 : UInt8)] } }, { bs := a, sure := (0 : Int) })])) [])],
      Contract Try.prog (12 : Nat) [V.ptr (0 : Nat) (0 : Nat) (0 : Nat) (0 : Nat), Sg { data := { toList := [(102 : UInt8)] } }] [Obj.box [I (1000 : Int), I (Int.ofNat (List.length a)), V.val (Value.int IntKind.u32 (1 : Int)), V.val (Value.int IntKind.i32 (0 : Int)), V.val (Value.int IntKind.u32 (0 : Int)), V.mref (1 : Nat), I (-1 : Int)], Obj.nest (Nest.mp false (mE [({ data := { toList := [(102 : UInt8)] } }, { bs := a, sure := (0 : Int) })])) []] (I (0 : Int)) [some (Obj.box [I (1000 : Int), I (Int.ofNat (List.length a)), V.val (Value.int IntKind.u32 (1 : Int)), V.val (Value.int IntKind.i32 (0 : Int)), V.val (Value.int IntKind.u32 (0 : Int)), V.mref (1 : Nat), I (-1 : Int)]), some (Obj.nest (Nest.mp false (mE [({ data := { toList := [(102 : UInt8)] } }, { bs := a, sure := Int.ofNat (List.length a) })])) [])],
      Contract Try.prog (10 : Nat) [V.ptr (0 : Nat) (0 : Nat) (0 : Nat) (0 : Nat), Sg { data := { toList := [(102 : UInt8)] } }, V.sl (1 : Nat) (List.map bR r)] [Obj.box [I (1000 : Int), I (Int.ofNat (List.length a)), V.val (Value.int IntKind.u32 (1 : Int)), V.val (Value.int IntKind.i32 (0 : Int)), V.val (Value.int IntKind.u32 (0 : Int)), V.mref (1 : Nat), I (-1 : Int)], Obj.nest (Nest.mp false (mE [({ data := { toList := [(102 : UInt8)] } }, { bs := a, sure := Int.ofNat (List.length a) })])) []] (I (0 : Int)) [some (Obj.box [I (1000 : Int), I (Int.ofNat (List.length a + List.length r)), V.val (Value.int IntKind.u32 (1 : Int)), V.val (Value.int IntKind.i32 (0 : Int)), V.val (Value.int IntKind.u32 (0 : Int)), V.mref (2 : Nat), I (-1 : Int)]), none, some (Obj.nest (Nest.mp false (mE [({ data := { toList := [(102 : UInt8)] } }, { bs := a ++ r, sure := Int.ofNat (List.length a) })])) [])],
      Contract Try.prog (11 : Nat) [V.ptr (0 : Nat) (0 : Nat) (0 : Nat) (0 : Nat), I (0 : Int)] [Obj.box [I (1000 : Int), I (Int.ofNat (List.length a + List.length r)), V.val (Value.int IntKind.u32 (1 : Int)), V.val (Value.int IntKind.i32 (0 : Int)), V.val (Value.int IntKind.u32 (0 : Int)), V.mref (1 : Nat), I (-1 : Int)], Obj.nest (Nest.mp false (mE [({ data := { toList := [(102 : UInt8)] } }, { bs := a ++ r, sure := Int.ofNat (List.length a) })])) []] (V.tup []) [some (Obj.box [I (1000 : Int), I (Int.ofNat (List.length a + List.length r)), V.val (Value.int IntKind.u32 (1 : Int)), V.val (Value.int IntKind.i32 (0 : Int)), V.val (Value.int IntKind.u32 (0 : Int)), V.mref (1 : Nat), I (0 : Int)]), some (Obj.nest (Nest.mp false (mE [({ data := { toList := [(102 : UInt8)] } }, { bs := a ++ r, sure := Int.ofNat (List.length a) })])) [])],
      [[V.val (Value.int IntKind.u8 (120 : Int))]] ≠ [],
      Contract Try.prog (10 : Nat) [V.ptr (0 : Nat) (0 : Nat) (0 : Nat) (0 : Nat), Sg { data := { toList := [(102 : UInt8)] } }, V.sl (1 : Nat) [[V.val (Value.int IntKind.u8 (120 : Int))]]] [Obj.box [I (1000 : Int), I (Int.ofNat (List.length a + List.length r)), V.val (Value.int IntKind.u32 (1 : Int)), V.val (Value.int IntKind.i32 (0 : Int)), V.val (Value.int IntKind.u32 (0 : Int)), V.mref (1 : Nat), I (0 : Int)], Obj.nest (Nest.mp false (mE [({ data := { toList := [(102 : UInt8)] } }, { bs := a ++ r, sure := Int.ofNat (List.length a) })])) []] (I (5 : Int)) [some (Obj.box [I (1000 : Int), I (Int.ofNat (List.length a + List.length r)), V.val (Value.int IntKind.u32 (1 : Int)), V.val (Value.int IntKind.i32 (0 : Int)), V.val (Value.int IntKind.u32 (0 : Int)), V.mref (2 : Nat), I (0 : Int)]), none, some (Obj.nest (Nest.mp false (mE [({ data := { toList := [(102 : UInt8)] } }, { bs := a ++ r, sure := Int.ofNat (List.length a) })])) [])],
      Contract Try.prog (17 : Nat) [V.ptr (0 : Nat) (0 : Nat) (0 : Nat) (0 : Nat), V.sl (1 : Nat) [[I p]]] [Obj.box [I (1000 : Int), I (Int.ofNat (List.length a + List.length r)), V.val (Value.int IntKind.u32 (1 : Int)), V.val (Value.int IntKind.i32 (0 : Int)), V.val (Value.int IntKind.u32 (0 : Int)), V.mref (1 : Nat), I (0 : Int)], Obj.nest (Nest.mp false (mE [({ data := { toList := [(102 : UInt8)] } }, { bs := a ++ r, sure := Int.ofNat (List.length a) })])) []] (V.tup []) [some (Obj.box [I (1000 : Int), I (Int.ofNat (List.length a + m)), V.val (Value.int IntKind.u32 (1 : Int)), V.val (Value.int IntKind.i32 (0 : Int)), V.val (Value.int IntKind.u32 (0 : Int)), V.mref (1 : Nat), I (-1 : Int)]), some (Obj.nest (Nest.mp false (mE [({ data := { toList := [(102 : UInt8)] } }, { bs := a ++ List.take m r, sure := Int.ofNat (List.length a + m) })])) [])],
      true = true,
      true = true,
      ∀ (c0 : Inn), List.Mem c0 [Fi.inn { bs := a ++ List.take m r, sure := Int.ofNat (List.length a + m) }] → Inn.flat c0,
      decide (p < (0 : Int)) = false,
      decide (p > Int.ofNat (List.length (List.map bR r))) = true,
      Contract Try.prog (18 : Nat) [V.ptr (0 : Nat) (0 : Nat) (0 : Nat) (0 : Nat), Sg { data := { toList := [(102 : UInt8)] } }] [Obj.box [I (1000 : Int), I (Int.ofNat (List.length a + m)), V.val (Value.int IntKind.u32 (1 : Int)), V.val (Value.int IntKind.i32 (0 : Int)), V.val (Value.int IntKind.u32 (0 : Int)), V.mref (1 : Nat), I (-1 : Int)], Obj.nest (Nest.mp false (mE [({ data := { toList := [(102 : UInt8)] } }, { bs := a ++ List.take m r, sure := Int.ofNat (List.length a + m) })])) []] (V.tup [V.sl (1 : Nat) (List.map bR (a ++ List.take m r)), Bo true]) [some (Obj.box [I (1000 : Int), I (Int.ofNat (List.length a + m)), V.val (Value.int IntKind.u32 (1 : Int)), V.val (Value.int IntKind.i32 (0 : Int)), V.val (Value.int IntKind.u32 (0 : Int)), V.mref (1 : Nat), I (-1 : Int)]), some (Obj.nest (Nest.mp false (mE [({ data := { toList := [(102 : UInt8)] } }, { bs := a ++ List.take m r, sure := Int.ofNat (List.length a + m) })])) [])],
      Contract Try.prog (15 : Nat) [V.ptr (0 : Nat) (0 : Nat) (0 : Nat) (0 : Nat)] [Obj.box [I (1000 : Int), I (Int.ofNat (List.length a + m)), V.val (Value.int IntKind.u32 (1 : Int)), V.val (Value.int IntKind.i32 (0 : Int)), V.val (Value.int IntKind.u32 (0 : Int)), V.mref (1 : Nat), I (-1 : Int)], Obj.nest (Nest.mp false (mE [({ data := { toList := [(102 : UInt8)] } }, { bs := a ++ List.take m r, sure := Int.ofNat (List.length a + m) })])) []] (V.sl (3 : Nat) [[Sg { data := { toList := [(102 : UInt8)] } }, V.sl (1 : Nat) (List.map bR (a ++ List.take m r)), I (Int.ofNat (List.length a + m))]]) [some (Obj.box [I (1000 : Int), I (Int.ofNat (List.length a + m)), V.val (Value.int IntKind.u32 (1 : Int)), V.val (Value.int IntKind.i32 (0 : Int)), V.val (Value.int IntKind.u32 (0 : Int)), V.mref (1 : Nat), I (-1 : Int)]), some (Obj.nest (Nest.mp false (mE [({ data := { toList := [(102 : UInt8)] } }, { bs := a ++ List.take m r, sure := Int.ofNat (List.length a + m) })])) [])],
      Contract Try.prog (10 : Nat) [V.ptr (0 : Nat) (0 : Nat) (0 : Nat) (0 : Nat), Sg { data := { toList := [(102 : UInt8)] } }, V.sl (1 : Nat) []] [Obj.box [I (1000 : Int), I (Int.ofNat (List.length a + m)), V.val (Value.int IntKind.u32 (1 : Int)), V.val (Value.int IntKind.i32 (0 : Int)), V.val (Value.int IntKind.u32 (0 : Int)), V.mref (1 : Nat), I (-1 : Int)], Obj.nest (Nest.mp false (mE [({ data := { toList := [(102 : UInt8)] } }, { bs := a ++ List.take m r, sure := Int.ofNat (List.length a + m) })])) []] (I (0 : Int)) [some (Obj.box [I (1000 : Int), I (Int.ofNat (List.length a + m)), V.val (Value.int IntKind.u32 (1 : Int)), V.val (Value.int IntKind.i32 (0 : Int)), V.val (Value.int IntKind.u32 (0 : Int)), V.mref (2 : Nat), I (-1 : Int)]), none, some (Obj.nest (Nest.mp false (mE [({ data := { toList := [(102 : UInt8)] } }, { bs := a ++ List.take m r, sure := Int.ofNat (List.length a + m) })])) [])],
      Contract Try.prog (13 : Nat) [I (5 : Int)] [] (I (5 : Int)) [],
      List.map bR (a ++ List.take m r) = strRows { data := { toList := a ++ List.take m r } },
      List.map bR a = strRows { data := { toList := a } },
      (0 : Int) ≤ (0 : Int),
      (0 : Int) ≤ Int.ofNat (List.length (List.map bR r)),
      Int.ofNat (List.length (List.map bR r)) ≤ Int.ofNat (List.length (List.map bR r)),
      List.take (List.length (List.map bR r)) (List.map bR r) = List.map bR (List.take m r),
      List.map bR (List.take m r) = strRows { data := { toList := List.take m r } },
      ByteArray.size { data := { toList := a } } + ByteArray.size { data := { toList := List.take m r } } ≤ (9223372036854775807 : Nat),
      (ByteArray.toList { data := { toList := a ++ List.take m r } } == ByteArray.toList { data := { toList := a ++ List.take m r } }) = true,
      (0 : Int) ≤ (0 : Int),
      (0 : Int) < (1 : Int),
      (Int.ofNat (List.length a + m) == Int.ofNat (List.length (List.map bR (a ++ List.take m r)))) = true,
      Contract Try.prog (13 : Nat) [I (0 : Int)] [] (I (0 : Int)) []] (by kernel_rfl)
    (by
      simp only [allP]
      and_intros <;> first
        | omega
        | exact cAlive
        | exact cNewP 1000 (by decide)
        | exact suK1 h1
        | exact suK2 h1
        | exact suK3 h1 h2
        | exact suK4
        | exact suK5 h1 h2
        | exact suC h1 h2 hc
        | exact suK6 h1 h2 hm
        | exact suK7 h1 h2 hm
        | exact suK8 h1 h2 hm
        | exact flat1 _
        | exact cNum 5
        | exact cNum 0
        | exact strRows_bR _
        | exact su_eq a (r.take m)
        | exact List.cons_ne_nil _ _
        | (simp [hm0]; done)
        | (simp [ByteArray.size]; omega))

theorem suD (a r : List UInt8) (p : Int) (m : Nat) (h1 : a.length ≤ 200) (h2 : r.length ≤ 200) (hm : m ≤ r.length) (hc : crN ⟨a ++ r, (a.length : Nat)⟩ (some p) = ((a.length + m : Nat) : Int)) (hp : (r.length : Int) < p) (hm0 : m = r.length) : Contract Try.prog 5 [.sl 1 (a.map bR), .sl 1 (r.map bR), I p] [] (Bo true) [] := by
  exact Contract.cast (by
    first
      | rfl) (by
    first
      | rfl) (suD_0 a r p m h1 h2 hm hc hp hm0 )

theorem cDeviceSure (a r : List UInt8) (p : Int) : Contract Try.prog 5 [.sl 1 (a.map bR), .sl 1 (r.map bR), I p] [] (Bo true) [] := by
  by_cases h1 : 200 < a.length
  · exact suX0 a r p h1
  by_cases h2 : 200 < r.length
  · exact suX1 a r p (by omega) h2
  by_cases h3 : p < 0
  · exact suA a r p 0 (by omega) (by omega) (by omega) (by simp only [crN, List.length_append, Int.ofNat_eq_natCast]; split <;> split <;> omega) h3 rfl
  by_cases h4 : p ≤ r.length
  · exact suB a r p p.toNat (by omega) (by omega) (by omega) (by simp only [crN, List.length_append, Int.ofNat_eq_natCast]; split <;> split <;> omega) (by omega) h4 (by omega)
  · exact suD a r p r.length (by omega) (by omega) (by omega) (by simp only [crN, List.length_append, Int.ofNat_eq_natCast]; split <;> split <;> omega) (by omega) rfl
open Go.ChangeShapes Go.WideShapes Go.ChangeAt Go.RowKit
theorem typed_all {α : Type} {f : α → List V} {rows : List (List V)} (h : ∀ r ∈ rows, ∃ e : α, r = f e) : ∃ es : List α, rows = es.map f := by
  induction rows with
  | nil => exact ⟨[], rfl⟩
  | cons r rows ih =>
    obtain ⟨e, rfl⟩ := h r (by simp)
    obtain ⟨es, rfl⟩ := ih fun r hr => h r (by simp [hr])
    exact ⟨e :: es, rfl⟩
theorem typed_b {r : List V} {B d : Nat} (h : Typed Try.prog B (d + 1) 5 r) : ∃ b : UInt8, r = bR b := by
  obtain ⟨n, rfl, hn⟩ := typed_int Try.underlying5 h
  simp [Lit.wf, IntKind.min, IntKind.max, IntKind.signed, IntKind.bits] at hn
  refine ⟨UInt8.ofNat n.toNat, ?_⟩
  have : ((UInt8.ofNat n.toNat).toNat : Int) = n := by simp; omega
  simp only [bR, intRow, this]
theorem own : ownKnob Try.prog.godebug = none := by kernel_rfl
theorem laidOut : laidOutB Try.prog = true := by kernel_rfl
theorem deviceSure_lifted (os : Os) (started : os.Started) (H : Type) (enc : TypeId × Value → H) :
    ReturnsInHanded {} Try.checked os 5 .any (Rows.deviceSureSpec.pre6 enc Try.prog Try.f5 Rows.deviceSureRow.domain false) (Rows.deviceSureSpec.post enc Try.prog Try.f5 false true false false) := by
  refine returnsInHanded_of_change (C := Try.checked) own started (by kernel_rfl) Try.func5
    (ChangeSpec.witness6 (enc := enc) (C := Try.checked) false ⟨#[], #[.slice none 0 0, .slice none 0 0, .int .i64 0], []⟩ 8 (by kernel_rfl) (by kernel_rfl) (by kernel_rfl) (by kernel_rfl)) ?_
  intro W base args ds gs before hval hW _ _
  refine row_of (P := Try.prog) (tb := 4) laidOut rfl (by kernel_rfl) (by kernel_rfl) (by kernel_rfl) Try.underlying4 (fun ds h => ?_) (fun us h => ?_) W base args ds gs before hval hW
  · match ds, h with
    | [_, _, _], _ => rfl
  · obtain ⟨u0, _, rfl, h0, u1, _, rfl, h1, u2, _, rfl, h2, rfl⟩ := h
    obtain ⟨rows0, rfl, _, hr0⟩ := arg_slice Try.underlying27 h0
    obtain ⟨a, rfl⟩ := typed_all (f := bR) fun r h => typed_b (hr0 r h)
    obtain ⟨rows1, rfl, _, hr1⟩ := arg_slice Try.underlying27 h1
    obtain ⟨r, rfl⟩ := typed_all (f := bR) fun r h => typed_b (hr1 r h)
    obtain ⟨p, rfl, hp⟩ := arg_int Try.underlying3 h2
    exact cDeviceSure a r p

theorem DeviceSure_proved : Rows.DeviceSureSaid :=
  OpenClaim.holds_of_wide 5 Try.f5 rfl rfl rfl rfl rfl rfl rfl ⟨rfl, rfl, rfl, rfl, rfl⟩ rfl rfl rfl rfl rfl (by kernel_rfl) Try.func5 (by kernel_rfl)
    (of_decide_eq_true (by kernel_rfl)) (by unfold Func.isWrapper; first | (rw [if_pos (by decide +kernel)]; kernel_rfl) | (rw [if_neg (by decide +kernel)]; exact ⟨rfl, rfl⟩))
    (fun os started H enc _ => deviceSure_lifted os started H enc)
#print axioms DeviceSure_proved
end Go.Proofs.Ythmhkgddohgoeaa
