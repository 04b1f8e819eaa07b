/- slices.Insert at []gleaning/api.Row. -/
import Derived.Test.YtigakemkanobaaaLibD
namespace Go.Proofs.Ytigakemkanobaaa
open E
set_option maxRecDepth 100000
set_option linter.unusedVariables false
set_option linter.unusedSimpArgs false

theorem insOv : IsOverlaps Try.prog 57 14 := ⟨_, 33, 4, 42, Try.func57, by kernel_rfl, by kernel_rfl, by kernel_rfl, by kernel_rfl, by kernel_rfl, by kernel_rfl, by omega⟩

theorem insA (rows : List (List V)) (row : List V) (k c : Nat) (hc : rows.length ≤ c) (hk : k = rows.length) (hb : (rows.length + 1) * 128 ≤ 140737488355328) : Contract Try.prog 46 [.vw 0 14 0 rows.length, I (k : Int), .own 1] [.blk 14 rows c, .arr 14 [row]] (.own 2) [none, some (.arr 14 [row]), some (.arr 14 (rows.take k ++ row :: rows.drop k))] :=
  vcP hmix [.reg 6 [(2, [], some true)], .reg 7 [(0, [.idx 0], none), (2, [.beO (rows.take k ++ row :: rows.drop k)], none)]] [1403000] [
      (0 : Int) ≤ Int.ofNat k,
      Int.ofNat k ≤ Int.ofNat (List.length rows),
      (0 : Nat) + List.length rows ≤ c,
      (Int.ofNat k == Int.ofNat (List.length rows)) = true,
      List.length rows ≤ List.length rows,
      (List.length (List.take (List.length rows) rows) + (1 : Nat)) * (128 : Nat) ≤ (140737488355328 : Nat),
      List.take (List.length rows) rows ++ [row] = List.take k rows ++ row :: List.drop k rows] (by kernel_rfl)
    (by
    subst hk
    have e1 : List.take rows.length rows ++ [row] = List.take rows.length rows ++ row :: List.drop rows.length rows := by simp
    exact (by
      simp only [allP]
      and_intros <;> first
        | assumption
        | omega
        | (simp; done)
        | (simp; omega)))

theorem insB (rows : List (List V)) (row : List V) (k c : Nat) (hc : rows.length ≤ c) (hk : k < rows.length) (hcc : c < rows.length + 1) (hb : (rows.length + 1) * 128 ≤ 140737488355328) : Contract Try.prog 46 [.vw 0 14 0 rows.length, I (k : Int), .own 1] [.blk 14 rows c, .arr 14 [row]] (.own 2) [some (.blk 14 rows c), some (.arr 14 [row]), some (.arr 14 (rows.take k ++ row :: rows.drop k))] :=
  vcP hmix [.reg 6 [(2, [], some false)], .reg 8 [(2, [.be (I (rows.length + 1 : Nat))], none), (5, [], some true)], .reg 9 [(5, [.be (I (rows.length + 1 : Nat))], none), (7, [.be (I (rows.length + 1 - k : Nat))], none), (8, [.beO (rows.take k ++ List.replicate (rows.length + 1 - k) (([I 0, I 0, Sg ByteArray.empty, Sg ByteArray.empty, I 0, I 0, I 0, I 0, I 0, I 0, I 0, I 0, I 0, I 0] : List V)))], none)], .reg 10 [(2, [.idx 0], none), (4, [.beO (rows.take k ++ row :: List.replicate (rows.length - k) (([I 0, I 0, Sg ByteArray.empty, Sg ByteArray.empty, I 0, I 0, I 0, I 0, I 0, I 0, I 0, I 0, I 0, I 0] : List V)))], none)], .reg 11 [(3, [.be (I (k + 1 : Nat))], none), (4, [.idx 0], none), (8, [.beO (rows.take k ++ row :: rows.drop k)], none)]] [1809000] [
      (0 : Int) ≤ Int.ofNat k,
      Int.ofNat k ≤ Int.ofNat (List.length rows),
      (0 : Nat) + List.length rows ≤ c,
      (Int.ofNat k == Int.ofNat (List.length rows)) = false,
      IntKind.wrap IntKind.i64 (Int.ofNat (List.length rows + (1 : Nat))) = Int.ofNat (List.length rows + (1 : Nat)),
      decide (Int.ofNat (List.length rows + (1 : Nat)) > Int.ofNat c) = true,
      (0 : Int) ≤ (0 : Int),
      (0 : Int) ≤ Int.ofNat k,
      (0 : Nat) + k ≤ c,
      IntKind.wrap IntKind.i64 (Int.ofNat (List.length rows + (1 : Nat))) = Int.ofNat (List.length rows + (1 : Nat)),
      IntKind.wrap IntKind.i64 (Int.ofNat (List.length rows + (1 : Nat)) + -Int.ofNat k) = Int.ofNat (List.length rows + (1 : Nat) - k),
      (0 : Nat) + k ≤ List.length rows,
      (0 : Int) ≤ Int.ofNat (List.length rows + (1 : Nat) - k),
      c < (0 : Nat) + k + (List.length rows + (1 : Nat) - k),
      ((0 : Nat) + k + (List.length rows + (1 : Nat) - k)) * (128 : Nat) ≤ (140737488355328 : Nat),
      List.take ((0 : Nat) + k) rows ++ List.replicate (List.length rows + (1 : Nat) - k) [I (0 : Int), I (0 : Int), Sg { data := { toList := [] } }, Sg { data := { toList := [] } }, I (0 : Int), I (0 : Int), I (0 : Int), I (0 : Int), I (0 : Int), I (0 : Int), I (0 : Int), I (0 : Int), I (0 : Int), I (0 : Int)] = List.take k rows ++ List.replicate (List.length rows + (1 : Nat) - k) [I (0 : Int), I (0 : Int), Sg { data := { toList := [] } }, Sg { data := { toList := [] } }, I (0 : Int), I (0 : Int), I (0 : Int), I (0 : Int), I (0 : Int), I (0 : Int), I (0 : Int), I (0 : Int), I (0 : Int), I (0 : Int)],
      (0 : Int) ≤ Int.ofNat k,
      Int.ofNat k ≤ Int.ofNat (List.length (List.take k rows ++ List.replicate (List.length rows + (1 : Nat) - k) [I (0 : Int), I (0 : Int), Sg { data := { toList := [] } }, Sg { data := { toList := [] } }, I (0 : Int), I (0 : Int), I (0 : Int), I (0 : Int), I (0 : Int), I (0 : Int), I (0 : Int), I (0 : Int), I (0 : Int), I (0 : Int)])),
      List.length (List.take k rows ++ List.replicate (List.length rows + (1 : Nat) - k) [I (0 : Int), I (0 : Int), Sg { data := { toList := [] } }, Sg { data := { toList := [] } }, I (0 : Int), I (0 : Int), I (0 : Int), I (0 : Int), I (0 : Int), I (0 : Int), I (0 : Int), I (0 : Int), I (0 : Int), I (0 : Int)]) ≤ List.length (List.take k rows ++ List.replicate (List.length rows + (1 : Nat) - k) [I (0 : Int), I (0 : Int), Sg { data := { toList := [] } }, Sg { data := { toList := [] } }, I (0 : Int), I (0 : Int), I (0 : Int), I (0 : Int), I (0 : Int), I (0 : Int), I (0 : Int), I (0 : Int), I (0 : Int), I (0 : Int)]),
      k ≤ List.length (List.take k rows ++ List.replicate (List.length rows + (1 : Nat) - k) [I (0 : Int), I (0 : Int), Sg { data := { toList := [] } }, Sg { data := { toList := [] } }, I (0 : Int), I (0 : Int), I (0 : Int), I (0 : Int), I (0 : Int), I (0 : Int), I (0 : Int), I (0 : Int), I (0 : Int), I (0 : Int)]),
      List.length (List.take k rows ++ List.replicate (List.length rows + (1 : Nat) - k) [I (0 : Int), I (0 : Int), Sg { data := { toList := [] } }, Sg { data := { toList := [] } }, I (0 : Int), I (0 : Int), I (0 : Int), I (0 : Int), I (0 : Int), I (0 : Int), I (0 : Int), I (0 : Int), I (0 : Int), I (0 : Int)]) ≤ List.length (List.take k rows ++ List.replicate (List.length rows + (1 : Nat) - k) [I (0 : Int), I (0 : Int), Sg { data := { toList := [] } }, Sg { data := { toList := [] } }, I (0 : Int), I (0 : Int), I (0 : Int), I (0 : Int), I (0 : Int), I (0 : Int), I (0 : Int), I (0 : Int), I (0 : Int), I (0 : Int)]),
      over (List.take k rows ++ List.replicate (List.length rows + (1 : Nat) - k) [I (0 : Int), I (0 : Int), Sg { data := { toList := [] } }, Sg { data := { toList := [] } }, I (0 : Int), I (0 : Int), I (0 : Int), I (0 : Int), I (0 : Int), I (0 : Int), I (0 : Int), I (0 : Int), I (0 : Int), I (0 : Int)]) k (List.take (List.length (List.take k rows ++ List.replicate (List.length rows + (1 : Nat) - k) [I (0 : Int), I (0 : Int), Sg { data := { toList := [] } }, Sg { data := { toList := [] } }, I (0 : Int), I (0 : Int), I (0 : Int), I (0 : Int), I (0 : Int), I (0 : Int), I (0 : Int), I (0 : Int), I (0 : Int), I (0 : Int)]) - k) [row]) = List.take k rows ++ row :: List.replicate (List.length rows - k) [I (0 : Int), I (0 : Int), Sg { data := { toList := [] } }, Sg { data := { toList := [] } }, I (0 : Int), I (0 : Int), I (0 : Int), I (0 : Int), I (0 : Int), I (0 : Int), I (0 : Int), I (0 : Int), I (0 : Int), I (0 : Int)],
      IntKind.wrap IntKind.i64 (Int.ofNat (k + (1 : Nat))) = Int.ofNat (k + (1 : Nat)),
      (0 : Int) ≤ Int.ofNat (k + (1 : Nat)),
      Int.ofNat (k + (1 : Nat)) ≤ Int.ofNat (List.length (List.take k rows ++ row :: List.replicate (List.length rows - k) [I (0 : Int), I (0 : Int), Sg { data := { toList := [] } }, Sg { data := { toList := [] } }, I (0 : Int), I (0 : Int), I (0 : Int), I (0 : Int), I (0 : Int), I (0 : Int), I (0 : Int), I (0 : Int), I (0 : Int), I (0 : Int)])),
      List.length (List.take k rows ++ row :: List.replicate (List.length rows - k) [I (0 : Int), I (0 : Int), Sg { data := { toList := [] } }, Sg { data := { toList := [] } }, I (0 : Int), I (0 : Int), I (0 : Int), I (0 : Int), I (0 : Int), I (0 : Int), I (0 : Int), I (0 : Int), I (0 : Int), I (0 : Int)]) ≤ List.length (List.take k rows ++ row :: List.replicate (List.length rows - k) [I (0 : Int), I (0 : Int), Sg { data := { toList := [] } }, Sg { data := { toList := [] } }, I (0 : Int), I (0 : Int), I (0 : Int), I (0 : Int), I (0 : Int), I (0 : Int), I (0 : Int), I (0 : Int), I (0 : Int), I (0 : Int)]),
      (0 : Int) ≤ Int.ofNat k,
      Int.ofNat k ≤ Int.ofNat (List.length rows),
      (0 : Nat) + List.length rows ≤ c,
      Int.toNat (Int.ofNat (k + (1 : Nat))) ≤ List.length (List.take k rows ++ row :: List.replicate (List.length rows - k) [I (0 : Int), I (0 : Int), Sg { data := { toList := [] } }, Sg { data := { toList := [] } }, I (0 : Int), I (0 : Int), I (0 : Int), I (0 : Int), I (0 : Int), I (0 : Int), I (0 : Int), I (0 : Int), I (0 : Int), I (0 : Int)]),
      List.length (List.take k rows ++ row :: List.replicate (List.length rows - k) [I (0 : Int), I (0 : Int), Sg { data := { toList := [] } }, Sg { data := { toList := [] } }, I (0 : Int), I (0 : Int), I (0 : Int), I (0 : Int), I (0 : Int), I (0 : Int), I (0 : Int), I (0 : Int), I (0 : Int), I (0 : Int)]) ≤ List.length (List.take k rows ++ row :: List.replicate (List.length rows - k) [I (0 : Int), I (0 : Int), Sg { data := { toList := [] } }, Sg { data := { toList := [] } }, I (0 : Int), I (0 : Int), I (0 : Int), I (0 : Int), I (0 : Int), I (0 : Int), I (0 : Int), I (0 : Int), I (0 : Int), I (0 : Int)]),
      (0 : Nat) + k + min (List.length (List.take k rows ++ row :: List.replicate (List.length rows - k) [I (0 : Int), I (0 : Int), Sg { data := { toList := [] } }, Sg { data := { toList := [] } }, I (0 : Int), I (0 : Int), I (0 : Int), I (0 : Int), I (0 : Int), I (0 : Int), I (0 : Int), I (0 : Int), I (0 : Int), I (0 : Int)]) - Int.toNat (Int.ofNat (k + (1 : Nat)))) ((0 : Nat) + List.length rows - ((0 : Nat) + k)) ≤ List.length rows,
      over (List.take k rows ++ row :: List.replicate (List.length rows - k) [I (0 : Int), I (0 : Int), Sg { data := { toList := [] } }, Sg { data := { toList := [] } }, I (0 : Int), I (0 : Int), I (0 : Int), I (0 : Int), I (0 : Int), I (0 : Int), I (0 : Int), I (0 : Int), I (0 : Int), I (0 : Int)]) (Int.toNat (Int.ofNat (k + (1 : Nat)))) (List.take (min (List.length (List.take k rows ++ row :: List.replicate (List.length rows - k) [I (0 : Int), I (0 : Int), Sg { data := { toList := [] } }, Sg { data := { toList := [] } }, I (0 : Int), I (0 : Int), I (0 : Int), I (0 : Int), I (0 : Int), I (0 : Int), I (0 : Int), I (0 : Int), I (0 : Int), I (0 : Int)]) - Int.toNat (Int.ofNat (k + (1 : Nat)))) ((0 : Nat) + List.length rows - ((0 : Nat) + k))) (List.drop ((0 : Nat) + k) rows)) = List.take k rows ++ row :: List.drop k rows] (by kernel_rfl)
    (by
      simp only [allP]
      and_intros <;> first
        | omega
        | (simp; done)
        | (simp; omega)
        | exact i64_small (by simp; omega)
        | (rw [i64_small (by simp; omega)]; simp; omega)
        | exact ins1 (by simp) (by omega) (by simp; omega)
        | exact ins2 (by simp) (by simp) (by omega) (by simp; omega))

theorem insC (rows : List (List V)) (row : List V) (k c : Nat) (hk : k < rows.length) (hcc : rows.length + 1 ≤ c) (hb : (rows.length + 1) * 128 ≤ 140737488355328) : Contract Try.prog 46 [.vw 0 14 0 rows.length, I (k : Int), .own 1] [.blk 14 rows c, .arr 14 [row]] (.own 2) [none, some (.arr 14 [row]), some (.arr 14 (rows.take k ++ row :: rows.drop k))] :=
  vcP hmix [.reg 6 [(2, [], some false)], .reg 8 [(2, [.be (I (rows.length + 1 : Nat))], none), (5, [], some false)], .reg 13 [(3, [.be (I (rows.length + 1 : Nat))], none)], .reg 14 [(4, [.be (I (k + 1 : Nat))], none), (6, [.idx 0], none)], .reg 15 [(3, [.be (I (k + 1 : Nat))], none), (8, [.beO (rows.take (k + 1) ++ rows.drop k)], none)], .reg 16 [(4, [.beO (rows.take k ++ row :: rows.drop k)], none)], .reg 17 [(0, [.idx 0, .beO (rows.take k ++ row :: rows.drop k)], none)]] [3401000] [
      (0 : Int) ≤ Int.ofNat k,
      Int.ofNat k ≤ Int.ofNat (List.length rows),
      (0 : Nat) + List.length rows ≤ c,
      (Int.ofNat k == Int.ofNat (List.length rows)) = false,
      IntKind.wrap IntKind.i64 (Int.ofNat (List.length rows + (1 : Nat))) = Int.ofNat (List.length rows + (1 : Nat)),
      decide (Int.ofNat (List.length rows + (1 : Nat)) > Int.ofNat c) = false,
      IntKind.wrap IntKind.i64 (Int.ofNat (List.length rows + (1 : Nat))) = Int.ofNat (List.length rows + (1 : Nat)),
      (0 : Int) ≤ (0 : Int),
      (0 : Int) ≤ Int.ofNat (List.length rows + (1 : Nat)),
      (0 : Nat) + Int.toNat (Int.ofNat (List.length rows + (1 : Nat))) ≤ c,
      IntKind.wrap IntKind.i64 (Int.ofNat (k + (1 : Nat))) = Int.ofNat (k + (1 : Nat)),
      (0 : Int) ≤ Int.ofNat (k + (1 : Nat)),
      Int.ofNat (k + (1 : Nat)) ≤ Int.ofNat ((0 : Nat) + Int.toNat (Int.ofNat (List.length rows + (1 : Nat))) - (0 : Nat)),
      (0 : Nat) + Int.toNat (Int.ofNat ((0 : Nat) + Int.toNat (Int.ofNat (List.length rows + (1 : Nat))) - (0 : Nat))) ≤ c,
      IsOverlaps Try.prog (57 : Nat) (14 : Nat),
      (0 : Nat) < (1 : Nat),
      (0 : Nat) + Int.toNat (Int.ofNat (k + (1 : Nat))) < (0 : Nat) + Int.toNat (Int.ofNat ((0 : Nat) + Int.toNat (Int.ofNat (List.length rows + (1 : Nat))) - (0 : Nat))),
      IntKind.wrap IntKind.i64 (Int.ofNat (k + (1 : Nat))) = Int.ofNat (k + (1 : Nat)),
      (0 : Int) ≤ Int.ofNat (k + (1 : Nat)),
      Int.ofNat (k + (1 : Nat)) ≤ Int.ofNat ((0 : Nat) + Int.toNat (Int.ofNat (List.length rows + (1 : Nat))) - (0 : Nat)),
      (0 : Nat) + Int.toNat (Int.ofNat ((0 : Nat) + Int.toNat (Int.ofNat (List.length rows + (1 : Nat))) - (0 : Nat))) ≤ c,
      (0 : Int) ≤ Int.ofNat k,
      Int.ofNat k ≤ Int.ofNat ((0 : Nat) + Int.toNat (Int.ofNat (List.length rows + (1 : Nat))) - (0 : Nat)),
      (0 : Nat) + Int.toNat (Int.ofNat ((0 : Nat) + Int.toNat (Int.ofNat (List.length rows + (1 : Nat))) - (0 : Nat))) ≤ c,
      (0 : Nat) + Int.toNat (Int.ofNat (k + (1 : Nat))) ≤ List.length rows,
      (0 : Nat) + Int.toNat (Int.ofNat ((0 : Nat) + Int.toNat (Int.ofNat (List.length rows + (1 : Nat))) - (0 : Nat))) ≤ c,
      (0 : Nat) + k + min ((0 : Nat) + Int.toNat (Int.ofNat ((0 : Nat) + Int.toNat (Int.ofNat (List.length rows + (1 : Nat))) - (0 : Nat))) - ((0 : Nat) + Int.toNat (Int.ofNat (k + (1 : Nat))))) ((0 : Nat) + Int.toNat (Int.ofNat ((0 : Nat) + Int.toNat (Int.ofNat (List.length rows + (1 : Nat))) - (0 : Nat))) - ((0 : Nat) + k)) ≤ List.length rows,
      over rows ((0 : Nat) + Int.toNat (Int.ofNat (k + (1 : Nat)))) (List.take (min ((0 : Nat) + Int.toNat (Int.ofNat ((0 : Nat) + Int.toNat (Int.ofNat (List.length rows + (1 : Nat))) - (0 : Nat))) - ((0 : Nat) + Int.toNat (Int.ofNat (k + (1 : Nat))))) ((0 : Nat) + Int.toNat (Int.ofNat ((0 : Nat) + Int.toNat (Int.ofNat (List.length rows + (1 : Nat))) - (0 : Nat))) - ((0 : Nat) + k))) (List.drop ((0 : Nat) + k) rows)) = List.take (k + (1 : Nat)) rows ++ List.drop k rows,
      (0 : Int) ≤ Int.ofNat k,
      Int.ofNat k ≤ Int.ofNat ((0 : Nat) + Int.toNat (Int.ofNat (List.length rows + (1 : Nat))) - (0 : Nat)),
      (0 : Nat) + Int.toNat (Int.ofNat ((0 : Nat) + Int.toNat (Int.ofNat (List.length rows + (1 : Nat))) - (0 : Nat))) ≤ c,
      (0 : Nat) + k ≤ List.length (List.take (k + (1 : Nat)) rows ++ List.drop k rows),
      (0 : Nat) + Int.toNat (Int.ofNat ((0 : Nat) + Int.toNat (Int.ofNat (List.length rows + (1 : Nat))) - (0 : Nat))) ≤ c,
      over (List.take (k + (1 : Nat)) rows ++ List.drop k rows) ((0 : Nat) + k) (List.take ((0 : Nat) + Int.toNat (Int.ofNat ((0 : Nat) + Int.toNat (Int.ofNat (List.length rows + (1 : Nat))) - (0 : Nat))) - ((0 : Nat) + k)) [row]) = List.take k rows ++ row :: List.drop k rows,
      (0 : Nat) + Int.toNat (Int.ofNat (List.length rows + (1 : Nat))) ≤ List.length (List.take k rows ++ row :: List.drop k rows),
      List.take ((0 : Nat) + Int.toNat (Int.ofNat (List.length rows + (1 : Nat)))) (List.take k rows ++ row :: List.drop k rows) = List.take k rows ++ row :: List.drop k rows] (by kernel_rfl)
    (by
      simp only [allP]
      and_intros <;> first
        | exact insOv
        | omega
        | (simp; done)
        | (simp; omega)
        | exact i64_small (by simp; omega)
        | exact ins3 (by simp) (by simp) (by omega) (by simp; omega)
        | exact ins4 (by simp) (by omega) (by simp; omega)
        | (apply List.take_of_length_le; simp; omega))

theorem insO (rows : List (List V)) (row : List V) (k : Nat) (hk : k ≤ rows.length) (hb : (rows.length + 1) * 128 ≤ 140737488355328) : Contract Try.prog 46 [.own 0, I (k : Int), .own 1] [.arr 14 rows, .arr 14 [row]] (.own 2) [none, some (.arr 14 [row]), some (.arr 14 (rows.take k ++ row :: rows.drop k))] :=
  Contract.own fun c hc => by
    by_cases h1 : k = rows.length
    · exact insA rows row k c hc h1 hb
    · by_cases h2 : rows.length + 1 ≤ c
      · exact insC rows row k c (by omega) h2 hb
      · exact Contract.drop0 (insB rows row k c hc (by omega) (by omega) hb)

end Go.Proofs.Ytigakemkanobaaa
