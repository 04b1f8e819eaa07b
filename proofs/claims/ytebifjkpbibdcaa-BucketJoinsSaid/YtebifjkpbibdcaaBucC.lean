/- Proved here: whatever the input, gleaninglaw8.BucketTells and gleaninglaw8.BucketJoins return true and leave what they are handed as it was. No conditions beyond the row. -/
import Derived.Test.YtebifjkpbibdcaaRows
import Derived.Test.YtebifjkpbibdcaaBucB
namespace Go.Proofs.Ytebifjkpbibdcaa
open E Go.ChangeShapes Go.WideShapes Go.ChangeAt Go.RowKit
set_option maxRecDepth 100000

def inI (n : Int) : Prop := -9223372036854775808 ≤ n ∧ n ≤ 9223372036854775807

theorem wrap64 {n : Int} (h : inI n) : IntKind.i64.wrap n = n := by
  unfold inI at h
  simp only [IntKind.wrap]
  simp [IntKind.signed, IntKind.bits]
  omega

/-- What is told together. -/
def plusN (a b m : Int) : Int :=
  let m := if 0 < m then m else 0
  let a := if a < 0 then 0 else if m < a then m else a
  let b := if b < 0 then 0 else if m < b then m else b
  if m - a < b then m else a + b

theorem plusR_eq {a b m : Int} (hm : inI m) : plusR a b m = plusN a b m := by
  unfold inI at hm
  have h1 : ∀ m a : Int, 0 ≤ m → m ≤ 9223372036854775807 → mx 0 (mn a m) = (if a < 0 then 0 else if m < a then m else a) := by
    intro m a h1 h2
    unfold mx mn
    repeat' split
    all_goals omega
  have h0 : mx 0 m = if 0 < m then m else 0 := rfl
  unfold plusR plusN
  simp only [h0]
  generalize hM : (if 0 < m then m else 0) = M
  have hM1 : 0 ≤ M ∧ M ≤ 9223372036854775807 := by subst hM; split <;> omega
  rw [h1 M a hM1.1 hM1.2, h1 M b hM1.1 hM1.2]
  generalize hA : (if a < 0 then 0 else if M < a then M else a) = A
  generalize hB : (if b < 0 then 0 else if M < b then M else b) = B
  have hA1 : 0 ≤ A ∧ A ≤ M := by subst hA; repeat' split
                                 all_goals omega
  have hB1 : 0 ≤ B ∧ B ≤ M := by subst hB; repeat' split
                                 all_goals omega
  rw [wrap64 (n := M - A) (by unfold inI; omega)]
  unfold mn
  split
  · rw [wrap64 (by unfold inI; omega)]; omega
  · rw [wrap64 (by unfold inI; omega)]

theorem capR_eq (n l h : Int) : capR n l h = if n < l then l else if h < n then h else n := by
  simp [capR, Bool.cond_decide]

theorem sumR_eq {a b m : Int} (hm : inI m) : sumR a b m = plusN a b m := by
  unfold inI at hm
  unfold sumR plusN
  simp only [capR_eq, Bool.cond_decide]
  have h0 : (if m < 0 then 0 else if 9223372036854775807 < m then 9223372036854775807 else m) = if 0 < m then m else 0 := by
    repeat' split
    all_goals omega
  rw [h0]
  generalize hM : (if 0 < m then m else 0) = M
  have hM1 : 0 ≤ M ∧ M ≤ 9223372036854775807 := by subst hM; split <;> omega
  generalize hA : (if a < 0 then 0 else if M < a then M else a) = A
  generalize hB : (if b < 0 then 0 else if M < b then M else b) = B
  have hA1 : 0 ≤ A ∧ A ≤ M := by subst hA; repeat' split
                                 all_goals omega
  have hB1 : 0 ≤ B ∧ B ≤ M := by subst hB; repeat' split
                                 all_goals omega
  rw [wrap64 (n := M - A) (by unfold inI; omega)]
  split
  · rfl
  · rw [wrap64 (by unfold inI; omega)]

theorem plusN_comm (a b m : Int) : plusN a b m = plusN b a m := by
  unfold plusN
  simp only
  generalize (if 0 < m then m else 0) = M
  generalize (if a < 0 then 0 else if M < a then M else a) = A
  generalize (if b < 0 then 0 else if M < b then M else b) = B
  repeat' split
  all_goals omega

theorem plusN_assoc (a b c m : Int) : plusN (plusN a b m) c m = plusN a (plusN b c m) m := by
  unfold plusN
  simp only
  generalize hM : (if 0 < m then m else 0) = M
  have hM1 : 0 ≤ M := by subst hM; split <;> omega
  generalize hA : (if a < 0 then 0 else if M < a then M else a) = A
  generalize hB : (if b < 0 then 0 else if M < b then M else b) = B
  generalize hC : (if c < 0 then 0 else if M < c then M else c) = C
  have hA1 : 0 ≤ A ∧ A ≤ M := by subst hA; repeat' split
                                 all_goals omega
  have hB1 : 0 ≤ B ∧ B ≤ M := by subst hB; repeat' split
                                 all_goals omega
  have hC1 : 0 ≤ C ∧ C ≤ M := by subst hC; repeat' split
                                 all_goals omega
  clear hA hB hC hM
  repeat' split
  all_goals omega

def eqC (f g : Nat → Int) : Bool := decide (f 0 = g 0) && (decide (f 1 = g 1) && ((decide (f 2 = g 2) && (decide (f 3 = g 3) && (decide (f 4 = g 4) && (decide (f 5 = g 5) && (decide (f 6 = g 6) && (decide (f 7 = g 7) && (decide (f 8 = g 8) && (decide (f 9 = g 9) && true)))))))) && true))

theorem eqC_of {f g : Nat → Int} (h : ∀ i, f i = g i) : eqC f g = true := by
  simp [eqC, h]

def F7 : List V → Option V := fun _ => some (Bo true)

theorem c3 (a b : Nat → Int) (s : Sp) (m d : Int) (hm : inI m) : Contract Try.prog 3 [ctr a, ctr b, s.v, I m, I d] [] (Bo true) [] :=
  vcP hmix [.reg 2 [(6, [], some true), (17, [], some true), (28, [], some true)], .tab [(7, F7), (8, F8), (9, F8), (10, F10), (11, F11), (12, F12), (13, F13)]] []
    [Contract Try.prog 7 [] [] (Bo true) [], Contract Try.prog 8 [I d] [] (I (ofR d)) [], Contract Try.prog 9 [I d] [] (I (ofR d)) [], (ofR d == ofR d) = true,
      Contract Try.prog 10 [ctr a, s.v, I m] [] (ctr (joinF plusR a (oneF (ofR s.dur) s.err) m)) [], Contract Try.prog 11 [ctr a, s.v, I m] [] (ctr (joinF sumR a (oneF (ofR s.dur) s.err) m)) [],
      eqC (joinF plusR a (oneF (ofR s.dur) s.err) m) (joinF sumR a (oneF (ofR s.dur) s.err) m) = true,
      Contract Try.prog 12 [ctr a, ctr b, I m] [] (ctr (joinF plusR a b m)) [], Contract Try.prog 13 [ctr a, ctr b, I m] [] (ctr (joinF sumR a b m)) [],
      eqC (joinF plusR a b m) (joinF sumR a b m) = true] (by kernel_rfl)
    ⟨c7, c8 _, c9 _, by simp, c10 _ _ _, c11 _ _ _, eqC_of fun i => by simp only [joinF, plusR_eq hm, sumR_eq hm], c12 _ _ _, c13 _ _ _, eqC_of fun i => by simp only [joinF, plusR_eq hm, sumR_eq hm]⟩

theorem c5 (a b c : Nat → Int) (m : Int) (hm : inI m) : Contract Try.prog 5 [ctr a, ctr b, ctr c, I m] [] (Bo true) [] :=
  vcP hmix [.reg 4 [(4, [], some true), (15, [], some true), (26, [], some true)], .tab [(7, F7), (12, F12)]] []
    [Contract Try.prog 7 [] [] (Bo true) [],
      Contract Try.prog 12 [ctr a, ctr b, I m] [] (ctr (joinF plusR a b m)) [], Contract Try.prog 12 [ctr (joinF plusR a b m), ctr c, I m] [] (ctr (joinF plusR (joinF plusR a b m) c m)) [],
      Contract Try.prog 12 [ctr b, ctr c, I m] [] (ctr (joinF plusR b c m)) [], Contract Try.prog 12 [ctr a, ctr (joinF plusR b c m), I m] [] (ctr (joinF plusR a (joinF plusR b c m) m)) [],
      eqC (joinF plusR (joinF plusR a b m) c m) (joinF plusR a (joinF plusR b c m) m) = true,
      Contract Try.prog 12 [ctr a, ctr b, I m] [] (ctr (joinF plusR a b m)) [], Contract Try.prog 12 [ctr b, ctr a, I m] [] (ctr (joinF plusR b a m)) [],
      eqC (joinF plusR a b m) (joinF plusR b a m) = true,
      Contract Try.prog 12 [ctr a, ctr (fun _ => 0), I m] [] (ctr (joinF plusR a (fun _ => 0) m)) [], Contract Try.prog 12 [ctr (fun _ => 0), ctr a, I m] [] (ctr (joinF plusR (fun _ => 0) a m)) [],
      eqC (joinF plusR a (fun _ => 0) m) (joinF plusR (fun _ => 0) a m) = true] (by kernel_rfl)
    ⟨c7, c12 _ _ _, c12 _ _ _, c12 _ _ _, c12 _ _ _, eqC_of fun i => by simp only [joinF, plusR_eq hm]; exact plusN_assoc _ _ _ _, c12 _ _ _, c12 _ _ _, eqC_of fun i => by simp only [joinF, plusR_eq hm]; exact plusN_comm _ _ _,
      c12 _ _ _, c12 _ _ _, eqC_of fun i => by simp only [joinF, plusR_eq hm]; exact plusN_comm _ _ _⟩

theorem inI_of {n : Int} (h : (Lit.int .i64 n).wf = true) : inI n := by
  simp [Lit.wf, IntKind.min, IntKind.max, IntKind.signed, IntKind.bits] at h
  unfold inI
  omega

theorem typed_ctr {v : V} (h : TypedArg Try.prog 24 v) : ∃ f : Nat → Int, v = ctr f ∧ ∀ i, inI (f i) := by
  obtain ⟨cs, rfl, hc⟩ := arg_struct Try.underlying24 h
  obtain ⟨_, _, rfl, h0, _, _, rfl, h1, _, _, rfl, h2, rfl⟩ : catFields (Typed Try.prog 7) [⟨"Count", 3, 0, false, "", "", 0⟩, ⟨"Errs", 3, 1, false, "", "", 8⟩, ⟨"By", 22, 2, false, "", "", 16⟩] cs := typed_struct Try.underlying24 hc
  obtain ⟨n0, rfl, w0⟩ := typed_int Try.underlying3 h0
  obtain ⟨n1, rfl, w1⟩ := typed_int Try.underlying3 h1
  obtain ⟨_, _, rfl, g2, _, _, rfl, g3, _, _, rfl, g4, _, _, rfl, g5, _, _, rfl, g6, _, _, rfl, g7, _, _, rfl, g8, _, _, rfl, g9, rfl⟩ := typed_array Try.underlying22 h2
  obtain ⟨n2, rfl, w2⟩ := typed_int Try.underlying3 g2
  obtain ⟨n3, rfl, w3⟩ := typed_int Try.underlying3 g3
  obtain ⟨n4, rfl, w4⟩ := typed_int Try.underlying3 g4
  obtain ⟨n5, rfl, w5⟩ := typed_int Try.underlying3 g5
  obtain ⟨n6, rfl, w6⟩ := typed_int Try.underlying3 g6
  obtain ⟨n7, rfl, w7⟩ := typed_int Try.underlying3 g7
  obtain ⟨n8, rfl, w8⟩ := typed_int Try.underlying3 g8
  obtain ⟨n9, rfl, w9⟩ := typed_int Try.underlying3 g9
  refine ⟨fun i => [n0, n1, n2, n3, n4, n5, n6, n7, n8, n9].getD i 0, rfl, fun i => ?_⟩
  match i with
  | 0 => exact inI_of w0
  | 1 => exact inI_of w1
  | 2 => exact inI_of w2
  | 3 => exact inI_of w3
  | 4 => exact inI_of w4
  | 5 => exact inI_of w5
  | 6 => exact inI_of w6
  | 7 => exact inI_of w7
  | 8 => exact inI_of w8
  | 9 => exact inI_of w9
  | i + 10 => simp [inI]

theorem typed_sp {v : V} (h : TypedArg Try.prog 30 v) : ∃ s : Sp, v = s.v := by
  obtain ⟨cs, rfl, hc⟩ := arg_struct Try.underlying30 h
  obtain ⟨_, _, rfl, h0, _, _, rfl, h1, _, _, rfl, h2, _, _, rfl, h3, _, _, rfl, h4, _, _, rfl, h5, _, _, rfl, h6, _, _, rfl, h7, _, _, rfl, h8, rfl⟩ :
    catFields (Typed Try.prog 7) [⟨"Trace", 27, 0, false, "", "", 0⟩, ⟨"Id", 25, 2, false, "", "", 16⟩, ⟨"Parent", 25, 3, false, "", "", 24⟩, ⟨"Service", 9, 4, false, "", "", 32⟩, ⟨"Op", 9, 5, false, "", "", 48⟩, ⟨"Start", 3, 6, false, "", "", 64⟩, ⟨"Dur", 3, 7, false, "", "", 72⟩, ⟨"Err", 4, 8, false, "", "", 80⟩, ⟨"Attrs", 28, 9, false, "", "", 88⟩] cs := typed_struct Try.underlying30 hc
  obtain ⟨_, _, rfl, g0, _, _, rfl, g1, rfl⟩ : catFields (Typed Try.prog 6) [⟨"Hi", 25, 0, false, "", "", 0⟩, ⟨"Lo", 25, 1, false, "", "", 8⟩] _ := typed_struct Try.underlying27 h0
  obtain ⟨hi, rfl, _⟩ := typed_int Try.underlying25 g0
  obtain ⟨lo, rfl, _⟩ := typed_int Try.underlying25 g1
  obtain ⟨id, rfl, _⟩ := typed_int Try.underlying25 h1
  obtain ⟨par, rfl, _⟩ := typed_int Try.underlying25 h2
  obtain ⟨svc, rfl, _⟩ := typed_string Try.underlying9 h3
  obtain ⟨op, rfl, _⟩ := typed_string Try.underlying9 h4
  obtain ⟨start, rfl, _⟩ := typed_int Try.underlying3 h5
  obtain ⟨dur, rfl, _⟩ := typed_int Try.underlying3 h6
  obtain ⟨err, rfl⟩ := typed_bool Try.underlying4 h7
  obtain ⟨rows, rfl, _, _⟩ := typed_slice Try.underlying28 h8
  exact ⟨⟨hi, lo, id, par, svc, op, start, dur, err, rows⟩, rfl⟩

theorem own : ownKnob Try.prog.godebug = none := by kernel_rfl
theorem laidOut : laidOutB Try.prog = true := by kernel_rfl

theorem tells_lifted (os : Os) (started : os.Started) (H : Type) (enc : TypeId × Value → H) :
    ReturnsInHanded {} Try.checked os 3 .any (Rows.bucketTellsSpec.pre6 enc Try.prog Try.f3 Rows.bucketTellsRow.domain false) (Rows.bucketTellsSpec.post enc Try.prog Try.f3 false true false false) := by
  refine returnsInHanded_of_change (C := Try.checked) own started (by kernel_rfl) Try.func3
    (ChangeSpec.witness6 (enc := enc) (C := Try.checked) false ⟨#[], #[.agg (Array.replicate 10 (.int .i64 0)), .agg (Array.replicate 10 (.int .i64 0)), .agg #[.int .u64 0, .int .u64 0, .int .u64 0, .int .u64 0, .string ByteArray.empty, .string ByteArray.empty, .int .i64 0, .int .i64 0, .bool false, .slice none 0 0], .int .i64 0, .int .i64 0], []⟩ 8 (by kernel_rfl) (by kernel_rfl) (by kernel_rfl) (by kernel_rfl)) ?_
  intro W base args ds gs before hval hW _ _
  refine row_of (P := Try.prog) (tb := 4) laidOut rfl (by kernel_rfl) (by kernel_rfl) (by kernel_rfl) Try.underlying4 (fun ds h => ?_) (fun us h => ?_) W base args ds gs before hval hW
  · match ds, h with
    | [_, _, _, _, _], _ => rfl
  · obtain ⟨u0, _, rfl, h0, u1, _, rfl, h1, u2, _, rfl, h2, u3, _, rfl, h3, u4, _, rfl, h4, rfl⟩ := h
    obtain ⟨a, rfl, _⟩ := typed_ctr h0
    obtain ⟨b, rfl, _⟩ := typed_ctr h1
    obtain ⟨s, rfl⟩ := typed_sp h2
    obtain ⟨m, rfl, hm⟩ := arg_int Try.underlying3 h3
    obtain ⟨d, rfl, _⟩ := arg_int Try.underlying3 h4
    exact c3 a b s m d (inI_of hm)

theorem joins_lifted (os : Os) (started : os.Started) (H : Type) (enc : TypeId × Value → H) :
    ReturnsInHanded {} Try.checked os 5 .any (Rows.bucketJoinsSpec.pre6 enc Try.prog Try.f5 Rows.bucketJoinsRow.domain false) (Rows.bucketJoinsSpec.post enc Try.prog Try.f5 false true false false) := by
  refine returnsInHanded_of_change (C := Try.checked) own started (by kernel_rfl) Try.func5
    (ChangeSpec.witness6 (enc := enc) (C := Try.checked) false ⟨#[], #[.agg (Array.replicate 10 (.int .i64 0)), .agg (Array.replicate 10 (.int .i64 0)), .agg (Array.replicate 10 (.int .i64 0)), .int .i64 0], []⟩ 8 (by kernel_rfl) (by kernel_rfl) (by kernel_rfl) (by kernel_rfl)) ?_
  intro W base args ds gs before hval hW _ _
  refine row_of (P := Try.prog) (tb := 4) laidOut rfl (by kernel_rfl) (by kernel_rfl) (by kernel_rfl) Try.underlying4 (fun ds h => ?_) (fun us h => ?_) W base args ds gs before hval hW
  · match ds, h with
    | [_, _, _, _], _ => rfl
  · obtain ⟨u0, _, rfl, h0, u1, _, rfl, h1, u2, _, rfl, h2, u3, _, rfl, h3, rfl⟩ := h
    obtain ⟨a, rfl, _⟩ := typed_ctr h0
    obtain ⟨b, rfl, _⟩ := typed_ctr h1
    obtain ⟨c, rfl, _⟩ := typed_ctr h2
    obtain ⟨m, rfl, hm⟩ := arg_int Try.underlying3 h3
    exact c5 a b c m (inI_of hm)

theorem BucketTells_proved : Rows.BucketTellsSaid :=
  OpenClaim.holds_of_wide 3 Try.f3 rfl rfl rfl rfl rfl rfl rfl ⟨rfl, rfl, rfl, rfl, rfl⟩ rfl rfl rfl rfl rfl (by kernel_rfl) Try.func3 (by kernel_rfl)
    (of_decide_eq_true (by kernel_rfl)) (by unfold Func.isWrapper; first | (rw [if_pos (by decide +kernel)]; kernel_rfl) | (rw [if_neg (by decide +kernel)]; exact ⟨rfl, rfl⟩))
    (fun os started H enc _ => tells_lifted os started H enc)
theorem BucketJoins_proved : Rows.BucketJoinsSaid :=
  OpenClaim.holds_of_wide 5 Try.f5 rfl rfl rfl rfl rfl rfl rfl ⟨rfl, rfl, rfl, rfl, rfl⟩ rfl rfl rfl rfl rfl (by kernel_rfl) Try.func5 (by kernel_rfl)
    (of_decide_eq_true (by kernel_rfl)) (by unfold Func.isWrapper; first | (rw [if_pos (by decide +kernel)]; kernel_rfl) | (rw [if_neg (by decide +kernel)]; exact ⟨rfl, rfl⟩))
    (fun os started H enc _ => joins_lifted os started H enc)
#print axioms BucketTells_proved
#print axioms BucketJoins_proved

end Go.Proofs.Ytebifjkpbibdcaa
