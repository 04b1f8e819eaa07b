/- DevicePlays: what any row of calls answers, and what all files are. -/
import Derived.Test.YthmhkgddohgoeaaDvPlaysP5
import Derived.Test.YthmhkgddohgoeaaRows
namespace Go.Proofs.Ythmhkgddohgoeaa
open E
set_option maxRecDepth 100000
set_option linter.unusedVariables false
set_option linter.unusedSimpArgs false

theorem plX_0 (R : Int) (l : List Ac) (hf : Contract Try.prog 20 [.sl 6 (l.map Ac.row)] [] (Bo false) []) : Contract Try.prog 7 [I R, .sl 6 (l.map Ac.row)] [] (Bo true) ([]) :=
  vcP hmix [.reg 1 [(0, [.call [] [] (Bo true) []], none)], .reg 2 [(4, [.call [] [] (Bo false) []], none)]] [] [
      Contract Try.prog (8 : Nat) [] [] (Bo true) [],
      Contract Try.prog (20 : Nat) [V.sl (6 : Nat) (List.map (fun a0 => [I (Ac.way a0), I (Ac.n a0), Sg (Ac.nm a0), Sg (Ac.to a0), V.sl (1 : Nat) (List.map bR (Ac.dat a0)), V.sl (1 : Nat) (List.map iR (Ac.pk a0))]) l)] [] (Bo false) []] (by kernel_rfl)
    (by
      simp only [allP]
      and_intros <;> first
        | exact cAlive
        | exact hf)

theorem plX (R : Int) (l : List Ac) (hf : Contract Try.prog 20 [.sl 6 (l.map Ac.row)] [] (Bo false) []) : Contract Try.prog 7 [I R, .sl 6 (l.map Ac.row)] [] (Bo true) [] := by
  exact Contract.cast (by
    first
      | rfl) (by
    first
      | rfl) (plX_0 R l hf )

theorem plF_0 (R : Int) (l : List Ac) (d o : Dv) (r : Rv) (fs : Fs) (hf : Contract Try.prog 20 [.sl 6 (l.map Ac.row)] [] (Bo true) []) (hL : LoopC Try.prog 0 172 plB (plS l (newD R) (⟨1000, 0, true, [], -1⟩ : Dv) (⟨capI R 0 9223372036854775807, -1, []⟩ : Rv) 0) (.exit 0) (plS l d o r l.length)) (h1 : Contract Try.prog 15 [.ptr 0 0 0 0] [d.box 1, d.map] (.sl 3 (fs.map fR)) [some (d.box 1), some d.map]) (h2 : Contract Try.prog 33 [.ptr 0 0 0 0] [r.box 1, r.arr] (.sl 3 (fs.map fR)) [some (r.box 1), some r.arr]) (h3 : Contract Try.prog 32 [.sl 3 (fs.map fR), .sl 3 (fs.map fR)] [] (Bo true) []) : Contract Try.prog 7 [I R, .sl 6 (l.map Ac.row)] [] (Bo true) ([]) :=
  vcP hmix [.reg 1 [(0, [.call [] [] (Bo true) []], none)], .reg 2 [(4, [.call [] [] (Bo true) []], none)], .reg 4 [(1, [.call [] [] (.ptr 0 0 0 0) [some ((newD R).box 1), some (newD R).map]], none)], .reg 5 [(0, [.call [] [] (.ptr 0 0 0 0) [some ((⟨1000, 0, true, [], -1⟩ : Dv).box 1), some (⟨1000, 0, true, [], -1⟩ : Dv).map]], none)], .reg 6 [(1, [.call [] [] (.ptr 0 0 0 0) [some ((⟨capI R 0 9223372036854775807, -1, []⟩ : Rv).box 1), some (⟨capI R 0 9223372036854775807, -1, []⟩ : Rv).arr]], none)], .cut ⟨[1, 6, 7, 8, 9], [(802001, 802001), (802002, 901), (1001001, 1001001), (1001002, 902), (1202001, 1202001), (1202002, 903)], []⟩ (.exit 0) (plS l d o r l.length), .reg 37 [(1, [.call [802001, 901] [] (.sl 3 (fs.map fR)) [some (d.box 1), some d.map]], none), (3, [.call [1202001, 903] [] (.sl 3 (fs.map fR)) [some (r.box 1), some r.arr]], none), (4, [.call [] [] (Bo true) []], none)]] [] [
      Contract Try.prog (8 : Nat) [] [] (Bo true) [],
      Contract Try.prog (20 : Nat) [V.sl (6 : Nat) (List.map (fun a0 => [I (Ac.way a0), I (Ac.n a0), Sg (Ac.nm a0), Sg (Ac.to a0), V.sl (1 : Nat) (List.map bR (Ac.dat a0)), V.sl (1 : Nat) (List.map iR (Ac.pk a0))]) l)] [] (Bo true) [],
      Contract Try.prog (9 : Nat) [I R] [] (V.ptr (0 : Nat) (0 : Nat) (0 : Nat) (0 : Nat)) [some (Obj.box [I (if (0 : Int) < R then R else (0 : Int)), I (0 : Int), V.val (Value.int IntKind.u32 (0 : Int)), V.val (Value.int IntKind.i32 (0 : Int)), V.val (Value.int IntKind.u32 (0 : Int)), V.mref (1 : Nat), I (-1 : Int)]), some (Obj.nest (Nest.mp true (mE [])) [])],
      Contract Try.prog (9 : Nat) [I (1000 : Int)] [] (V.ptr (0 : Nat) (0 : Nat) (0 : Nat) (0 : Nat)) [some (Obj.box [I (1000 : Int), I (0 : Int), V.val (Value.int IntKind.u32 (0 : Int)), V.val (Value.int IntKind.i32 (0 : Int)), V.val (Value.int IntKind.u32 (0 : Int)), V.mref (1 : Nat), I (-1 : Int)]), some (Obj.nest (Nest.mp true (mE [])) [])],
      Contract Try.prog (21 : Nat) [I R] [] (V.ptr (0 : Nat) (0 : Nat) (0 : Nat) (0 : Nat)) [some (Obj.box [I (capI R (0 : Int) (9223372036854775807 : Int)), I (-1 : Int), V.own (1 : Nat)]), some (Obj.arr (3 : Nat) [])],
      LoopC Try.prog (0 : Nat) (172 : Nat) plB { env := [((1 : Nat), V.sl (6 : Nat) (List.map (fun a0 => [I (Ac.way a0), I (Ac.n a0), Sg (Ac.nm a0), Sg (Ac.to a0), V.sl (1 : Nat) (List.map bR (Ac.dat a0)), V.sl (1 : Nat) (List.map iR (Ac.pk a0))]) l)), ((6 : Nat), V.ptr (802001 : Nat) (0 : Nat) (0 : Nat) (0 : Nat)), ((7 : Nat), V.ptr (1001001 : Nat) (0 : Nat) (0 : Nat) (0 : Nat)), ((8 : Nat), V.ptr (1202001 : Nat) (0 : Nat) (0 : Nat) (0 : Nat)), ((9 : Nat), I (0 : Int))], st := [((802001 : Nat), Obj.box [I (if (0 : Int) < R then R else (0 : Int)), I (0 : Int), V.val (Value.int IntKind.u32 (0 : Int)), V.val (Value.int IntKind.i32 (0 : Int)), V.val (Value.int IntKind.u32 (0 : Int)), V.mref (901 : Nat), I (-1 : Int)]), ((901 : Nat), Obj.nest (Nest.mp true (mE [])) []), ((1001001 : Nat), Obj.box [I (1000 : Int), I (0 : Int), V.val (Value.int IntKind.u32 (0 : Int)), V.val (Value.int IntKind.i32 (0 : Int)), V.val (Value.int IntKind.u32 (0 : Int)), V.mref (902 : Nat), I (-1 : Int)]), ((902 : Nat), Obj.nest (Nest.mp true (mE [])) []), ((1202001 : Nat), Obj.box [I (capI R (0 : Int) (9223372036854775807 : Int)), I (-1 : Int), V.own (903 : Nat)]), ((903 : Nat), Obj.arr (3 : Nat) [])], ids := [(802001 : Nat), (901 : Nat), (1001001 : Nat), (902 : Nat), (1202001 : Nat), (903 : Nat)] } (Ex.exit (0 : Nat)) { env := [((1 : Nat), V.sl (6 : Nat) (List.map (fun a0 => [I (Ac.way a0), I (Ac.n a0), Sg (Ac.nm a0), Sg (Ac.to a0), V.sl (1 : Nat) (List.map bR (Ac.dat a0)), V.sl (1 : Nat) (List.map iR (Ac.pk a0))]) l)), ((6 : Nat), V.ptr (802001 : Nat) (0 : Nat) (0 : Nat) (0 : Nat)), ((7 : Nat), V.ptr (1001001 : Nat) (0 : Nat) (0 : Nat) (0 : Nat)), ((8 : Nat), V.ptr (1202001 : Nat) (0 : Nat) (0 : Nat) (0 : Nat)), ((9 : Nat), I (Int.ofNat (List.length l)))], st := [((802001 : Nat), Obj.box [I (Dv.room d), I (Dv.used d), V.val (Value.int IntKind.u32 (bif Dv.nl d then (0 : Int) else (1 : Int))), V.val (Value.int IntKind.i32 (0 : Int)), V.val (Value.int IntKind.u32 (0 : Int)), V.mref (901 : Nat), I (Dv.fuse d)]), ((901 : Nat), Obj.nest (Nest.mp (Dv.nl d) (mE (Dv.fs d))) []), ((1001001 : Nat), Obj.box [I (Dv.room o), I (Dv.used o), V.val (Value.int IntKind.u32 (bif Dv.nl o then (0 : Int) else (1 : Int))), V.val (Value.int IntKind.i32 (0 : Int)), V.val (Value.int IntKind.u32 (0 : Int)), V.mref (902 : Nat), I (Dv.fuse o)]), ((902 : Nat), Obj.nest (Nest.mp (Dv.nl o) (mE (Dv.fs o))) []), ((1202001 : Nat), Obj.box [I (Rv.room r), I (Rv.fuse r), V.own (903 : Nat)]), ((903 : Nat), Obj.arr (3 : Nat) (List.map fR (Rv.F r)))], ids := [(802001 : Nat), (901 : Nat), (1001001 : Nat), (902 : Nat), (1202001 : Nat), (903 : Nat)] },
      Contract Try.prog (15 : Nat) [V.ptr (0 : Nat) (0 : Nat) (0 : Nat) (0 : Nat)] [Obj.box [I (Dv.room d), I (Dv.used d), V.val (Value.int IntKind.u32 (bif Dv.nl d then (0 : Int) else (1 : Int))), V.val (Value.int IntKind.i32 (0 : Int)), V.val (Value.int IntKind.u32 (0 : Int)), V.mref (1 : Nat), I (Dv.fuse d)], Obj.nest (Nest.mp (Dv.nl d) (mE (Dv.fs d))) []] (V.sl (3 : Nat) (List.map fR fs)) [some (Obj.box [I (Dv.room d), I (Dv.used d), V.val (Value.int IntKind.u32 (bif Dv.nl d then (0 : Int) else (1 : Int))), V.val (Value.int IntKind.i32 (0 : Int)), V.val (Value.int IntKind.u32 (0 : Int)), V.mref (1 : Nat), I (Dv.fuse d)]), some (Obj.nest (Nest.mp (Dv.nl d) (mE (Dv.fs d))) [])],
      Contract Try.prog (33 : Nat) [V.ptr (0 : Nat) (0 : Nat) (0 : Nat) (0 : Nat)] [Obj.box [I (Rv.room r), I (Rv.fuse r), V.own (1 : Nat)], Obj.arr (3 : Nat) (List.map fR (Rv.F r))] (V.sl (3 : Nat) (List.map fR fs)) [some (Obj.box [I (Rv.room r), I (Rv.fuse r), V.own (1 : Nat)]), some (Obj.arr (3 : Nat) (List.map fR (Rv.F r)))],
      Contract Try.prog (32 : Nat) [V.sl (3 : Nat) (List.map fR fs), V.sl (3 : Nat) (List.map fR fs)] [] (Bo true) []] (by kernel_rfl)
    (by
      simp only [allP]
      and_intros <;> first
        | omega
        | exact cAlive
        | exact hf
        | exact cNew R
        | exact cNewP 1000 (by decide)
        | exact cRNew R
        | exact hL
        | exact h1
        | exact h2)

theorem plF (R : Int) (l : List Ac) (d o : Dv) (r : Rv) (fs : Fs) (hf : Contract Try.prog 20 [.sl 6 (l.map Ac.row)] [] (Bo true) []) (hL : LoopC Try.prog 0 172 plB (plS l (newD R) (⟨1000, 0, true, [], -1⟩ : Dv) (⟨capI R 0 9223372036854775807, -1, []⟩ : Rv) 0) (.exit 0) (plS l d o r l.length)) (h1 : Contract Try.prog 15 [.ptr 0 0 0 0] [d.box 1, d.map] (.sl 3 (fs.map fR)) [some (d.box 1), some d.map]) (h2 : Contract Try.prog 33 [.ptr 0 0 0 0] [r.box 1, r.arr] (.sl 3 (fs.map fR)) [some (r.box 1), some r.arr]) (h3 : Contract Try.prog 32 [.sl 3 (fs.map fR), .sl 3 (fs.map fR)] [] (Bo true) []) : Contract Try.prog 7 [I R, .sl 6 (l.map Ac.row)] [] (Bo true) [] := by
  exact Contract.cast (by
    first
      | rfl) (by
    first
      | rfl) (plF_0 R l d o r fs hf hL h1 h2 h3 )

/-- How big a device is. -/
structure Sz (d : Dv) (i : Nat) : Prop where
  ok : Ok d
  used : d.used ≤ 100 * i
  few : d.fs.length ≤ i
theorem sz_app {d : Dv} {i : Nat} (s : ByteArray) (b : List UInt8) (h : Sz d i) (hi : i ≤ 80) (hb : b.length ≤ 100) (hs : s.size ≤ 20) : tot d.fs + b.length ≤ 1000000000 ∧ Sz (d.append s b).1 (i + 1) := by
  have h1 := h.ok.used
  have h2 := h.used
  have h3 := h.few
  have ht : tot d.fs + b.length ≤ 1000000000 := by omega
  refine ⟨ht, append_ok h.ok ht (Nat.le_trans hs (by decide)) (by omega), ?_, ?_⟩
  · unfold Dv.append
    split
    · simp only; omega
    split
    · simp only; omega
    split
    · simp only; omega
    · simp only [Dv.went]; omega
  · unfold Dv.append
    split
    · simp only; omega
    split
    · simp only; omega
    split
    · simp only; omega
    · simp only [Dv.went, length_put]; split <;> omega
theorem sz_sync {d : Dv} {i : Nat} (s : ByteArray) (h : Sz d i) : Sz (d.sync s).1 (i + 1) := by
  have h2 := h.used
  have h3 := h.few
  refine ⟨sync_ok h.ok, ?_, ?_⟩
  · unfold Dv.sync
    split
    · simp only; omega
    cases look d.fs s with
    | none => simp only; omega
    | some f => simp only [Dv.went]; omega
  · unfold Dv.sync
    split
    · simp only; omega
    cases look d.fs s with
    | none => simp only; omega
    | some f => simp only [Dv.went, length_put]; split <;> omega
theorem sz_del {d : Dv} {i : Nat} (s : ByteArray) (h : Sz d i) : Sz (d.delete s).1 (i + 1) := by
  have h2 := h.used
  have h3 := h.few
  refine ⟨delete_ok h.ok, ?_, ?_⟩
  · unfold Dv.delete
    split
    · simp only; omega
    cases look d.fs s with
    | none => simp only; omega
    | some f => simp only [Dv.went]; omega
  · unfold Dv.delete
    split
    · simp only; omega
    cases look d.fs s with
    | none => simp only; omega
    | some f => simp only [Dv.went]; exact Nat.le_trans (length_del _ _) (by omega)
theorem sz_ren {d : Dv} {i : Nat} (s t : ByteArray) (h : Sz d i) (ht : t.size ≤ 20) : Sz (d.rename s t).1 (i + 1) := by
  have h2 := h.used
  have h3 := h.few
  refine ⟨rename_ok h.ok (Nat.le_trans ht (by decide)), ?_, ?_⟩
  · unfold Dv.rename
    split
    · simp only; omega
    cases look d.fs s with
    | none => simp only; omega
    | some f =>
      simp only
      split
      · simp only; omega
      split
      · simp only [Dv.went]; omega
      · simp only [Dv.went]; omega
  · unfold Dv.rename
    split
    · simp only; omega
    cases look d.fs s with
    | none => simp only; omega
    | some f =>
      simp only
      split
      · simp only; omega
      split
      · simp only [Dv.went]; omega
      · simp only [Dv.went, List.length_append, List.length_singleton]
        have h4 := length_del (del d.fs t) s
        have h5 := length_del d.fs t
        omega
theorem sz_fuse {d : Dv} {i : Nat} (n : Int) (hn : n ≤ 9223372036854775807) (h : Sz d i) : Sz {d with fuse := if (-1 : Int) > n then -1 else n} (i + 1) := by
  have h2 := h.used
  have h3 := h.few
  refine ⟨⟨h.ok.used, h.ok.uniq, h.ok.sure, h.ok.nl, ?_, h.ok.room, h.ok.names, h.ok.tot, h.ok.few⟩, by simp only; omega, by simp only; omega⟩
  simp only; split <;> omega
theorem crashL_sz (ps : List Int) : ∀ (ns : List ByteArray) (i : Nat) (d : Dv), Ok d → (crashL ps ns i d).used ≤ d.used ∧ (crashL ps ns i d).fs.length = d.fs.length
  | [], _, _, _ => ⟨Int.le_refl _, rfl⟩
  | s :: ns, i, d, hk => by
    obtain ⟨h1, h2⟩ := crashL_sz ps ns (i + 1) _ (crash1_ok hk s ps[i]?)
    have h3 : (crash1 d s ps[i]?).used ≤ d.used ∧ (crash1 d s ps[i]?).fs.length = d.fs.length := by
      unfold crash1
      cases hl : look d.fs s with
      | none => exact ⟨Int.le_refl _, rfl⟩
      | some f =>
        have hs : 0 ≤ f.sure ∧ f.sure ≤ f.bs.length := hk.sure (s, f) (look_mem hl)
        have hb := crN_bnd hs.1 hs.2 ps[i]?
        refine ⟨by simp only; omega, ?_⟩
        simp only [length_put, hl, Option.isSome_some, if_true]; omega
    rw [crashL]
    exact ⟨by omega, by omega⟩
theorem sz_crash {d : Dv} {i : Nat} (ps : List Int) (h : Sz d i) : Sz (d.crash ps) (i + 1) := by
  obtain ⟨h1, h2⟩ := crashL_sz ps (namesF d.fs) 0 ⟨d.room, d.used, d.nl, d.fs, -1⟩ (dead_ok h.ok)
  have h3 := h.used
  have h4 := h.few
  exact ⟨crash_ok h.ok ps, by show (crashL ps (namesF d.fs) 0 _).used ≤ _; simp only at h1; omega, by show (crashL ps (namesF d.fs) 0 _).fs.length ≤ _; simp only at h2; omega⟩
theorem sz_up {d : Dv} {i : Nat} (h : Sz d i) : Sz d (i + 1) := ⟨h.ok, by have := h.used; omega, by have := h.few; omega⟩
theorem plLoop (l : List Ac) (h80 : l.length ≤ 80) (hok : ∀ a ∈ l, a.ok) (hin : ∀ a ∈ l, a.n ≤ 9223372036854775807) : ∀ (m i : Nat) (d o : Dv) (r : Rv), i + m = l.length → Sz d i → Sz o i → Rel d r →
    ∃ d' o' r', LoopC Try.prog 0 172 plB (plS l d o r i) (.exit 0) (plS l d' o' r' l.length) ∧ Ok d' ∧ d'.fs.length ≤ 80 ∧ Rel d' r'
  | 0, i, d, o, r, h, hd, ho, hr => by
    have : i = l.length := by omega
    subst this
    exact ⟨d, o, r, LoopC.last (plE l d o r _ (Nat.le_refl _)) (by simp), hd.ok, by have := hd.few; omega, hr⟩
  | m + 1, i, d, o, r, h, hd, ho, hr => by
    have hi : i < l.length := by omega
    have hx := List.getElem?_eq_getElem hi
    have hm := List.getElem_mem hi
    obtain ⟨a1, a2, a3, a4⟩ := hok _ hm
    have an := hin _ hm
    obtain ⟨o1, o2⟩ := sz_app ⟨#[111]⟩ l[i].dat ho (by omega) a1 (by decide)
    have hO := cAppend o ⟨#[111]⟩ l[i].dat ho.ok o1
    have hl9 : d.fs.length ≤ 999999 := by have := hd.few; omega
    -- what is looked at behind a call
    have fin : ∀ (d' : Dv) (r' : Rv), Sz d' (i + 1) → Rel d' r' → (∀ (bs : List UInt8) (is : Bool) (u mm : Int),
        Contract Try.prog 18 [.ptr 0 0 0 0, .val (.string l[i].nm)] [d'.box 1, d'.map] (.tup [.sl 1 (bs.map bR), Bo is]) [some (d'.box 1), some d'.map] → Contract Try.prog 28 [.ptr 0 0 0 0, .val (.string l[i].nm)] [r'.box 1, r'.arr] (.tup [.sl 1 (bs.map bR), Bo is]) [some (r'.box 1), some r'.arr] →
        Contract Try.prog 14 [.ptr 0 0 0 0] [d'.box 1, d'.map] (I u) [some (d'.box 1), some d'.map] → Contract Try.prog 29 [.ptr 0 0 0 0] [r'.box 1, r'.arr] (I u) [some (r'.box 1), some r'.arr] →
        Contract Try.prog 30 [.ptr 0 0 0 0] [d'.box 1, d'.map] (I mm) [some (d'.box 1), some d'.map] → Contract Try.prog 31 [.ptr 0 0 0 0] [r'.box 1, r'.arr] (I mm) [some (r'.box 1), some r'.arr] →
        CodeC Try.prog 0 172 plB (plS l d o r i) .normal (plS l d' (o.append ⟨#[111]⟩ l[i].dat).1 r' (i + 1))) →
        ∃ d'' o' r'', LoopC Try.prog 0 172 plB (plS l d o r i) (.exit 0) (plS l d'' o' r'' l.length) ∧ Ok d'' ∧ d''.fs.length ≤ 80 ∧ Rel d'' r'' := by
      intro d' r' sz rel go
      obtain ⟨e1, e2, e3, e4, e5⟩ := plLoop l h80 hok hin m (i + 1) d' (o.append ⟨#[111]⟩ l[i].dat).1 r' (by omega) sz o2 rel
      have hu := cRUsed r' (by rw [rel.len]; have := sz.few; omega) (by rw [rel.tot]; exact sz.ok.tot)
      rw [rel.tot, ← sz.ok.used] at hu
      have hmm := cRRoom r'
      rw [rel.room] at hmm
      exact ⟨e1, e2, e3, LoopC.next (go _ _ _ _ (cRead d' l[i].nm sz.ok) (relRead l[i].nm sz.ok rel (by have := sz.few; omega)) (cUsed d') hu (cRoom d') hmm) e4, e5⟩
    by_cases w0 : l[i].way = 0
    · obtain ⟨k1, k2⟩ := sz_app l[i].nm l[i].dat hd (by omega) a1 a2
      obtain ⟨r', c1, c2⟩ := relAppend l[i].nm l[i].dat hd.ok hr k1 hl9
      exact fin _ _ k2 c2 fun bs is u mm q1 q2 q3 q4 q5 q6 => pl0 l l[i] d _ o _ r r' _ _ u mm bs is i hx hi (by omega) a1 a4 hO w0 (cAppend d l[i].nm l[i].dat hd.ok k1) c1 q1 q2 q3 q4 q5 q6
    by_cases w1 : l[i].way = 1
    · obtain ⟨r', c1, c2⟩ := relSync l[i].nm hd.ok hr hl9
      exact fin _ _ (sz_sync l[i].nm hd) c2 fun bs is u mm q1 q2 q3 q4 q5 q6 => pl1 l l[i] d _ o _ r r' _ _ u mm bs is i hx hi (by omega) a1 a4 hO w1 (cSync d l[i].nm hd.ok) c1 q1 q2 q3 q4 q5 q6
    by_cases w2 : l[i].way = 2
    · obtain ⟨r', c1, c2⟩ := relRename l[i].nm l[i].to hd.ok hr hl9
      exact fin _ _ (sz_ren l[i].nm l[i].to hd a3) c2 fun bs is u mm q1 q2 q3 q4 q5 q6 => pl2 l l[i] d _ o _ r r' _ _ u mm bs is i hx hi (by omega) a1 a4 hO w2 (cRename d l[i].nm l[i].to hd.ok) c1 q1 q2 q3 q4 q5 q6
    by_cases w3 : l[i].way = 3
    · obtain ⟨r', c1, c2⟩ := relDelete l[i].nm hd.ok hr hl9
      exact fin _ _ (sz_del l[i].nm hd) c2 fun bs is u mm q1 q2 q3 q4 q5 q6 => pl3 l l[i] d _ o _ r r' _ _ u mm bs is i hx hi (by omega) a1 a4 hO w3 (cDelete d l[i].nm hd.ok) c1 q1 q2 q3 q4 q5 q6
    by_cases w4 : l[i].way = 4
    · have c1 := relFuse l[i].n an hr
      exact fin _ ⟨r.room, if (-1 : Int) > l[i].n then -1 else l[i].n, r.F⟩ (sz_fuse l[i].n an hd) ⟨hr.room, rfl, hr.perm, hr.sd⟩ fun bs is u mm q1 q2 q3 q4 q5 q6 => pl4 l l[i] d _ o _ r _ _ 0 u mm bs is i hx hi (by omega) a1 a4 hO w4 (cFuse d l[i].n) c1 q1 q2 q3 q4 q5 q6
    by_cases w5 : l[i].way = 5
    · obtain ⟨r', c1, c2⟩ := relCrash l[i].pk hd.ok hr hl9
      exact fin _ _ (sz_crash l[i].pk hd) c2 fun bs is u mm q1 q2 q3 q4 q5 q6 => pl5 l l[i] d _ o _ r r' _ 0 u mm bs is i hx hi (by omega) a1 a4 hO w5 (cCrash d l[i].pk hd.ok) c1 q1 q2 q3 q4 q5 q6
    · exact fin d r (sz_up hd) hr fun bs is u mm q1 q2 q3 q4 q5 q6 => pl6 l l[i] d o _ r _ u mm bs is i hx hi (by omega) a1 a4 hO w0 w1 w2 w3 w4 w5 q1 q2 q3 q4 q5 q6
theorem cDevicePlays (R : Int) (hR : R ≤ 9223372036854775807) (l : List Ac) (hl : l.length ≤ 9223372036854775807) (hin : ∀ a ∈ l, a.n ≤ 9223372036854775807) : Contract Try.prog 7 [I R, .sl 6 (l.map Ac.row)] [] (Bo true) [] := by
  obtain ⟨b, hb, hb2⟩ := cFew l hl
  cases b with
  | false => exact plX R l hb
  | true =>
    obtain ⟨h80, hok⟩ := hb2 rfl
    have e0 : newD R = ⟨capI R 0 9223372036854775807, 0, true, [], -1⟩ := by
      unfold newD capI
      by_cases h : 0 < R
      · rw [if_pos h, show decide (R < 0) = false by simp; omega, show decide (R > 9223372036854775807) = false by simp; omega]; rfl
      · rw [if_neg h]
        by_cases h2 : R < 0
        · rw [show decide (R < 0) = true by simpa using h2]; rfl
        · have : R = 0 := by omega
          subst this; rfl
    have hc : 0 ≤ capI R 0 9223372036854775807 ∧ capI R 0 9223372036854775807 ≤ 9223372036854775807 := by
      unfold capI
      by_cases h2 : R < 0
      · rw [show decide (R < 0) = true by simpa using h2, cond_true]; decide
      · rw [show decide (R < 0) = false by simpa using h2, show decide (R > 9223372036854775807) = false by simp; omega, cond_false, cond_false]; omega
    have ok0 : Ok (newD R) := by rw [e0]; exact newP_ok hc.1 hc.2
    obtain ⟨d, o, r, q1, q2, q3, q4⟩ := plLoop l h80 hok hin l.length 0 (newD R) (⟨1000, 0, true, [], -1⟩ : Dv) (⟨capI R 0 9223372036854775807, -1, []⟩ : Rv) (by omega) ⟨ok0, by rw [e0]; simp, by rw [e0]; simp⟩ ⟨newP_ok (by decide) (by decide), by simp, by simp⟩ ⟨by rw [e0], by rw [e0], by rw [e0], List.Pairwise.nil⟩
    have hF := q4.sd.eq q4.perm q2.uniq
    have hlen := q4.len
    have h2 := cRFiles r (by omega)
    have h1 := cFiles d q2
    rw [← hF] at h1
    exact plF R l d o r r.F hb q1 h1 h2 (cSame r.F (by omega))

open Go.ChangeShapes Go.WideShapes Go.ChangeAt Go.RowKit
theorem typed_all {α : Type} {f : α → List V} {rows : List (List V)} (h : ∀ r ∈ rows, ∃ e : α, r = f e) : ∃ es : List α, rows = es.map f := by
  induction rows with
  | nil => exact ⟨[], rfl⟩
  | cons r rows ih =>
    obtain ⟨e, rfl⟩ := h r (by simp)
    obtain ⟨es, rfl⟩ := ih fun r hr => h r (by simp [hr])
    exact ⟨e :: es, rfl⟩
theorem typed_allP {α : Type} {f : α → List V} {Q : α → Prop} {rows : List (List V)} (h : ∀ r ∈ rows, ∃ e : α, r = f e ∧ Q e) : ∃ es : List α, rows = es.map f ∧ ∀ e ∈ es, Q e := by
  induction rows with
  | nil => exact ⟨[], rfl, fun e he => by simp at he⟩
  | cons r rows ih =>
    obtain ⟨e, rfl, hq⟩ := h r (by simp)
    obtain ⟨es, rfl, hs⟩ := ih fun r hr => h r (by simp [hr])
    exact ⟨e :: es, rfl, fun x hx => by rcases List.mem_cons.1 hx with rfl | hx; exact hq; exact hs x hx⟩
theorem wfle {n : Int} (h : (Lit.int .i64 n).wf = true) : n ≤ 9223372036854775807 := by
  simp [Lit.wf, IntKind.min, IntKind.max, IntKind.signed, IntKind.bits] at h
  omega
theorem typed_b {r : List V} {B d : Nat} (h : Typed Try.prog B (d + 1) 5 r) : ∃ b : UInt8, r = bR b := by
  obtain ⟨n, rfl, hn⟩ := typed_int Try.underlying5 h
  simp [Lit.wf, IntKind.min, IntKind.max, IntKind.signed, IntKind.bits] at hn
  refine ⟨UInt8.ofNat n.toNat, ?_⟩
  have : ((UInt8.ofNat n.toNat).toNat : Int) = n := by simp; omega
  simp only [bR, intRow, this]
theorem typed_i {r : List V} {B d : Nat} (h : Typed Try.prog B (d + 1) 3 r) : ∃ n : Int, r = iR n := by
  obtain ⟨n, rfl, _⟩ := typed_int Try.underlying3 h
  exact ⟨n, rfl⟩
theorem typed_ac {r : List V} {B d : Nat} (h : Typed Try.prog B (d + 3) 50 r) : ∃ e : Ac, r = Ac.row e ∧ e.n ≤ 9223372036854775807 := by
  obtain ⟨_, _, rfl, h0x0, _, _, rfl, h0x1, _, _, rfl, h0x2, _, _, rfl, h0x3, _, _, rfl, h0x4, _, _, rfl, h0x5, rfl⟩ :
    catFields (Typed Try.prog B (d + 2)) [⟨"Way", 3, 0, false, "", "", 0⟩, ⟨"N", 3, 1, false, "", "", 8⟩, ⟨"Name", 9, 2, false, "", "", 16⟩, ⟨"To", 9, 3, false, "", "", 32⟩, ⟨"Data", 27, 4, false, "", "", 48⟩, ⟨"Picks", 33, 5, false, "", "", 72⟩] _ := typed_struct Try.underlying50 h
  obtain ⟨vw, rfl, _⟩ := typed_int Try.underlying3 h0x0
  obtain ⟨vn, rfl, hwn⟩ := typed_int Try.underlying3 h0x1
  obtain ⟨vm, rfl, _⟩ := typed_string Try.underlying9 h0x2
  obtain ⟨vt, rfl, _⟩ := typed_string Try.underlying9 h0x3
  obtain ⟨wd, rfl, _, qd⟩ := typed_slice Try.underlying27 h0x4
  obtain ⟨vd, rfl⟩ := typed_all (f := bR) fun r h => typed_b (qd r h)
  obtain ⟨wp, rfl, _, qp⟩ := typed_slice Try.underlying33 h0x5
  obtain ⟨vp, rfl⟩ := typed_all (f := iR) fun r h => typed_i (qp r h)
  exact ⟨Ac.mk vw vn vm vt vd vp, rfl, wfle hwn⟩
theorem own : ownKnob Try.prog.godebug = none := by kernel_rfl
theorem laidOut : laidOutB Try.prog = true := by kernel_rfl
theorem devicePlays_lifted (os : Os) (started : os.Started) (H : Type) (enc : TypeId × Value → H) :
    ReturnsInHanded {} Try.checked os 7 .any (Rows.devicePlaysSpec.pre6 enc Try.prog Try.f7 Rows.devicePlaysRow.domain false) (Rows.devicePlaysSpec.post enc Try.prog Try.f7 false true false false) := by
  refine returnsInHanded_of_change (C := Try.checked) own started (by kernel_rfl) Try.func7
    (ChangeSpec.witness6 (enc := enc) (C := Try.checked) false ⟨#[], #[.int .i64 0, .slice none 0 0], []⟩ 8 (by kernel_rfl) (by kernel_rfl) (by kernel_rfl) (by kernel_rfl)) ?_
  intro W base args ds gs before hval hW _ _
  refine row_of (P := Try.prog) (tb := 4) laidOut rfl (by kernel_rfl) (by kernel_rfl) (by kernel_rfl) Try.underlying4 (fun ds h => ?_) (fun us h => ?_) W base args ds gs before hval hW
  · match ds, h with
    | [_, _], _ => rfl
  · obtain ⟨u0, _, rfl, h0, u1, _, rfl, h1, rfl⟩ := h
    obtain ⟨n, rfl, hn⟩ := arg_int Try.underlying3 h0
    obtain ⟨rows1, rfl, hb1, hr1⟩ := arg_slice Try.underlying45 h1
    obtain ⟨l, rfl, hq⟩ := typed_allP (f := Ac.row) fun r h => typed_ac (hr1 r h)
    exact cDevicePlays n (wfle hn) l (by rw [List.length_map] at hb1; exact hb1) hq

theorem DevicePlays_proved : Rows.DevicePlaysSaid :=
  OpenClaim.holds_of_wide 7 Try.f7 rfl rfl rfl rfl rfl rfl rfl ⟨rfl, rfl, rfl, rfl, rfl⟩ rfl rfl rfl rfl rfl (by kernel_rfl) Try.func7 (by kernel_rfl)
    (of_decide_eq_true (by kernel_rfl)) (by unfold Func.isWrapper; first | (rw [if_pos (by decide +kernel)]; kernel_rfl) | (rw [if_neg (by decide +kernel)]; exact ⟨rfl, rfl⟩))
    (fun os started H enc _ => devicePlays_lifted os started H enc)
#print axioms DevicePlays_proved
end Go.Proofs.Ythmhkgddohgoeaa
