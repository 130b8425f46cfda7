-- Written by gprint.py, a program of this session's: the kit's printer over contracts that were proved by hand. Lean checks it.
import Derived.Test.YtamgobcahgcejaaDoorGCx0
import Derived.Test.YtamgobcahgcejaaDoorGCx5
import Derived.Test.YtamgobcahgcejaaDoorGCx6
import Derived.Test.YtamgobcahgcejaaDoorGCx7
import Derived.Test.YtamgobcahgcejaaDoorSeq
import Derived.OwnWalkIn
import Derived.TacticsInMore
import Derived.LoopNIn
import Derived.LoopIn
import Derived.Lib.Hide
namespace Go.Proofs.YtamgobcahgcejaaDoor.GC
open Go.RowKit Go.Proofs.YtamgobcahgcejaaDoorW.PrintWords Go.Proofs.YtamgobcahgcejaaDoorW.PrintLast Go.Proofs.YtamgobcahgcejaaDoorW.PrintMore
attribute [local go_sem] max2_int min2_int max_two min_two max_three min_three max_four min_four   -- for this text's walks alone
set_option linter.unusedVariables false
set_option linter.unusedSimpArgs false

/-! ### line_Lines: function 7 -/
-- @own Derived.Test.YtamgobcahgcejaaDoorSeq Derived.OwnWalkIn Derived.TacticsInMore Derived.LoopNIn Derived.LoopIn Derived.Lib.Hide
attribute [local go_sem] Oper.semAt_some
open Go.Proofs.YtamgobcahgcejaaDoorSeq

/-- What the iterator of strings.SplitSeq does between two rounds: it writes the text that is left. -/
def SplitSt (bs : Nat) (A B : World) : Prop := ∃ u, B = A.setCell ⟨bs, 0, none⟩ (.string u)
/-- What a round leaves alone: the three variables that the iterator has captured. -/
def SplitKp (bp bs bv : Nat) (A B : World) : Prop := B.heap[bp]? = A.heap[bp]? ∧ B.heap[bs]? = A.heap[bs]? ∧ B.heap[bv]? = A.heap[bv]?
def restSize (bs : Nat) (w : World) : Nat := match w.cell? ⟨bs, 0, none⟩ with | some (.string s) => s.size | _ => 0
theorem restSize_eq {bs : Nat} {w : World} {s : ByteArray} (h : Boxed w bs 9 (.string s)) : restSize bs w = s.size := by unfold restSize; rw [h.cell]

set_option maxRecDepth 100000 in
set_option maxHeartbeats 1000000 in
theorem split_iter (bp bs bv : Nat) (hd1 : bp ≠ bs) (hd2 : bv ≠ bs) (s : ByteArray) (W : World) (hp : Boxed W bp 9 (.string ⟨#[10]⟩)) (hs : Boxed W bs 9 (.string s)) (hv : Boxed W bv 3 (.int .i64 0)) (hz : s.size ≤ 140737488355328) :
    Iter Tryd.prog 32 #[.pointer (some ⟨bp, 0, none⟩), .pointer (some ⟨bs, 0, none⟩), .pointer (some ⟨bv, 0, none⟩)] (fun x : ByteArray => #[Value.string x]) (SplitSt bs) (SplitKp bp bs bv) (fun xs => xs = splitB 10 s) (fun pre => pre <+: splitB 10 s) (fun pre x => pre ++ [x] <+: splitB 10 s) W := by
  intro l J Jx hJ hJx hY h0
  refine callsIn_of_wp Tryd.func32 rfl trivial ?_ rfl
  simp only [Tryd.ntmps32, List.size_toArray, List.length_cons, List.length_nil, Nat.reduceAdd, Nat.reduceSub, Array.replicate_succ, Array.replicate_zero, List.push_toArray, List.append_toArray, List.nil_append, List.cons_append]
  have cp := hp.cell
  gi_wp2
  gi_loopw [7] (fun _ wr => ∃ (pre : List ByteArray) (cur : ByteArray), splitB 10 s = pre ++ splitB 10 cur ∧ Boxed wr bp 9 (.string ⟨#[10]⟩) ∧ Boxed wr bs 9 (.string cur) ∧ Boxed wr bv 3 (.int .i64 0) ∧ J pre wr ∧ Aside0 (cur.size ≤ 140737488355328)) (fun _ wr => restSize bs wr)
  case atStart => exact ⟨[], s, rfl, hp, hs, hv, h0, ⟨hz⟩⟩
  case round =>
    clear cp
    obtain ⟨pre, cur, hsp, hp, hs, hv, hj, hz⟩ := hrel
    have cp := hp.cell
    have cs := hs.cell
    have cv := hv.cell
    have fs := hs.frozen
    have hix := Tryd.strings_Index_one cur 10
    have ge := Lib.indexByte_ge cur.data.toList 10
    have lt := indexByte_less cur.data.toList 10
    have hd : (cur.data.toList.length : Int) = (cur.size : Int) := by rw [Array.length_toList]; rfl
    rw [hd] at lt
    clear hd
    have hz' := hz.out
    by_cases hi : Lib.indexByte cur.data.toList 10 < 0
    · have e1 := splitB_none 10 cur (by omega)
      rw [e1] at hsp
      obtain ⟨fn, tmps, assign, body, hy, hR⟩ := hY pre cur wr hj ⟨[], by rw [hsp]; simp⟩
      clear hY
      generalize Lib.indexByte cur.data.toList 10 = i at *
      have hb : decide (i < 0) = true := decide_eq_true hi
      have HSP := Lib.hid hsp
      clear hsp e1 hi
      gi_wp2_with (refine ⟨trivial, rfl, ?_⟩; gi_at_call 23; refine (callsIn_wide.2 (hix _)).mono ?_; rintro e w' ⟨rfl, rfl⟩)
      refine ⟨rfl, hR.mono ?_⟩
      rintro e W3 (⟨rfl, hJ3, hk3⟩ | ⟨rfl, hJ3⟩)
      · gi_wp2
        go_end0
        exact ⟨⟨_, rfl⟩, .inl ⟨pre ++ [cur], HSP.out.symm, hJ3⟩⟩
      · gi_wp2
        go_end0
        exact ⟨⟨_, rfl⟩, .inr ⟨pre ++ [cur], ⟨[], by rw [HSP.out]; simp⟩, hJ3⟩⟩
    · obtain ⟨i, hi'⟩ : ∃ i : Nat, Lib.indexByte cur.data.toList 10 = (i : Int) := ⟨_, (Int.toNat_of_nonneg (by omega)).symm⟩
      have e1 := splitB_some 10 cur i hi'
      rw [hi'] at lt hix
      rw [e1] at hsp
      obtain ⟨fn, tmps, assign, body, hy, hR⟩ := hY pre (cur.extract 0 i) wr hj ⟨splitB 10 (cur.extract (i + 1) cur.size), by rw [hsp]; simp⟩
      clear hY
      have hlt : i < cur.size := by omega
      have b1 : decide ((i : Int) < 0) = false := decide_eq_false (by omega)
      have b2 : (0 : Int) ≤ (i : Int) := by omega
      have b3 : (i : Int) ≤ (cur.size : Int) := by omega
      have b4 : (i : Int) + 1 ≤ (cur.size : Int) := by omega
      have HSP := Lib.hid hsp
      have HI := Lib.hid hi
      have HI' := Lib.hid hi'
      clear hsp e1 hi hi' lt ge
      gi_wp2_with (refine ⟨trivial, rfl, ?_⟩; gi_at_call 23; refine (callsIn_wide.2 (hix _)).mono ?_; rintro e w' ⟨rfl, rfl⟩)
      refine ⟨rfl, hR.mono ?_⟩
      rintro e W3 (⟨rfl, hJ3, hk3⟩ | ⟨rfl, hJ3⟩)
      · have hp3 : Boxed W3 bp 9 (.string ⟨#[10]⟩) := hk3.1.trans hp
        have hs3 : Boxed W3 bs 9 (.string cur) := hk3.2.1.trans hs
        have hv3 : Boxed W3 bv 3 (.int .i64 0) := hk3.2.2.trans hv
        have cp3 := hp3.cell
        have cs3 := hs3.cell
        have fs3 := hs3.frozen
        clear cp cs cv fs
        gi_wp2
        go_roundw
        case rel => 
          refine ⟨pre ++ [cur.extract 0 i], cur.extract (i + 1) cur.size, by rw [HSP.out]; simp, box_other hp3 hd1 _, hs3.set _, box_other hv3 hd2 _, hJ _ _ _ hJ3 ⟨_, rfl⟩, ⟨by rw [ByteArray.size_extract]; omega⟩⟩
        case measure =>
          rw [restSize_eq (hs3.set _), restSize_eq hs, ByteArray.size_extract]
          omega
      · gi_wp2
        refine bodyPost_ret (results_none rfl _ _ _) rfl ?_
        exact ⟨⟨_, rfl⟩, .inr ⟨pre ++ [cur.extract 0 i], ⟨splitB 10 (cur.extract (i + 1) cur.size), by rw [HSP.out]; simp⟩, hJ3⟩⟩

/-- The lines of a text's pieces. -/
def line_Lines.go (k : Nat) : List ByteArray → List S32 → Int → Option (List S32 × Int × Int)
  | [], out, _ => some (out, 0, 0)
  | l :: rest, out, at_ => (line_bare.f l).bind fun t => (line_wrong.f k t).bind fun q =>
    if 0 ≤ q then some ([], wrap64 (at_ + q), 7)
    else (line_words.f k t at_).bind fun ws =>
      if 0 < ws.length then line_Lines.go k rest (out ++ [(⟨(rd_T34 ws 0).f1, ws⟩ : S32)]) (wrap64 (at_ + wrap64 ((l.size : Int) + 1)))
      else line_Lines.go k rest out (wrap64 (at_ + wrap64 ((l.size : Int) + 1)))
def line_Lines.f (k : Nat) (a0 : ByteArray) : Option (List S32 × Int × Int) :=
  if 200000 < a0.size then some ([], 0, 8) else if 5000 < Lib.countByte a0.data.toList 10 then some ([], 0, 8) else line_Lines.go k (splitB 10 a0) [] 0
theorem line_Lines.go_mono : ∀ (l : List ByteArray) (out : List S32) (at_ : Int) (k : Nat), LeO (line_Lines.go k l out at_) (line_Lines.go (k + 1) l out at_)
  | [], _, _, _ => LeO.refl _
  | l :: rest, out, at_, k => by
    unfold line_Lines.go
    refine LeO.bind (LeO.refl _) fun t => LeO.bind (line_wrong.mono _ _) fun q => LeO.ite (LeO.refl _) (LeO.bind (line_words.mono _ _ _) fun ws => LeO.ite (line_Lines.go_mono _ _ _ _) (line_Lines.go_mono _ _ _ _))
theorem line_Lines.mono : ∀ a0 k, LeO (line_Lines.f k a0) (line_Lines.f (k + 1) a0) := fun a0 k => by
  unfold line_Lines.f
  exact LeO.ite (LeO.refl _) (LeO.ite (LeO.refl _) (line_Lines.go_mono _ _ _ _))

set_option maxHeartbeats 400000 in
theorem strings_SplitSeq.calls (a0 a1 : ByteArray) (w : World) :
    Calls Tryd.prog 15 #[.string a0, .string a1] w fun e w' => e = .returned (.func (.func 32) #[] #[.pointer (some ⟨w.heap.size + 1, 0, none⟩), .pointer (some ⟨w.heap.size, 0, none⟩), .pointer (some ⟨w.heap.size + 2, 0, none⟩)]) ∧ w' = ((w.alloc (.cells #[.string a0] 9)).alloc (.cells #[.string a1] 9)).alloc (.cells #[.int .i64 0] 3) := by
  go_enter Tryd.func15, Tryd.ntmps15
  go_wp2
  go_ret
  exact ⟨rfl, rfl⟩


/-- Between two rounds: what has been told, and where everything lies. -/
def LI (k : Nat) (w : World) (N : Nat) (pre : List ByteArray) (W : World) : Prop :=
  ∃ (out : List S32) (at_ : Int) (v : Value) (u : ByteArray), (∀ rest, line_Lines.go k (pre ++ rest) [] 0 = line_Lines.go k rest out at_) ∧ out.length ≤ pre.length ∧ N + 8 ≤ W.heap.size ∧
    Boxed W N 25 (.slice none 0 0) ∧ Boxed W (N + 1) 3 (.int .i64 0) ∧ Boxed W (N + 2) 26 (.int .i64 0) ∧ Boxed W (N + 3) 25 v ∧ Boxed W (N + 4) 3 (.int .i64 at_) ∧ Boxed W (N + 5) 9 (.string u) ∧ Boxed W (N + 6) 9 (.string ⟨#[10]⟩) ∧ Boxed W (N + 7) 3 (.int .i64 0) ∧
    Kd.S k32 32 W N (fun _ => True) v out ∧ Below N w W
/-- A round has returned: a sign that can't stand. -/
def LR (k : Nat) (w : World) (N : Nat) (pre : List ByteArray) (W : World) : Prop :=
  ∃ q : Int, (∀ rest, line_Lines.go k (pre ++ rest) [] 0 = some ([], q, 7)) ∧ Boxed W N 25 (.slice none 0 0) ∧ Boxed W (N + 1) 3 (.int .i64 q) ∧ Boxed W (N + 2) 26 (.int .i64 7) ∧ Below N w W

theorem defer_set {W : World} {D : Nat} {ds : List Deferred} (h : W.heap[D]? = some (.deferred (some ds))) (a : Addr) (v : Value) : (W.setCell a v).heap[D]? = some (.deferred (some ds)) := by
  by_cases e : D = a.block
  · subst e
    obtain ⟨hlt, hk⟩ := Array.getElem?_eq_some_iff.1 h
    show (W.heap.modify a.block _)[a.block]? = _
    rw [Array.getElem?_eq_getElem (by rw [Array.size_modify]; exact hlt), Array.getElem_modify_self, hk]
  · exact (Below.heap_setCell W a v D e).trans h
theorem keeps_drewN (W : World) (n : Nat) : KeepsOthers W (W.drewN n) := ⟨Nat.le_refl _, fun _ _ h _ => h⟩
theorem setCell_size (W : World) (a : Addr) (v : Value) : (W.setCell a v).heap.size = W.heap.size := by
  show (W.heap.modify _ _).size = _
  rw [Array.size_modify]
theorem cell_later {W : World} {a : Addr} {v : Value} (h : W.cell? a = some v) (o : Obj) : (W.alloc o).cell? a = some v := (World.cell?_alloc_lt W o a (World.block_lt_of_cell? W a h)).trans h
theorem box_new (W : World) (B : Nat) (h : B = W.heap.size) (t : TypeId) (v : Value) : Boxed (W.alloc (.cells #[v] t)) B t v := by subst h; exact Boxed.new W t v
theorem box_grown {W W' : World} {row : Option Nat} {B : Nat} {t : TypeId} {v : Value} (h : Boxed W B t v) (hg : W.grownBy W' row) (hr : ∀ r, row = some r → ∃ o : Obj, W.heap[r]? = some o ∧ o.isCells = false) : Boxed W' B t v :=
  h.kept hg fun e => by
    obtain ⟨o, ho, hc⟩ := hr B e.symm
    rw [show W.heap[B]? = _ from h] at ho
    cases ho
    cases hc
theorem row_grown {α : Type} {d : Kd α} {e : Nat} {W W' : World} {base : Nat} {v : Value} {xs : List α} {row : Option Nat} (h : Kd.S d e W base (fun _ => True) v xs) (hg : W.grownBy W' row) (hr : ∀ r, row = some r → ∃ o : Obj, W.heap[r]? = some o ∧ o.isCells = false) : Kd.S d e W' base (fun _ => True) v xs :=
  Kd.S_mono (Kd.S_grown (Kd.S_bound h) hg (fun k hk e => by
    obtain ⟨o, ho, hc⟩ := hr k e.symm
    obtain ⟨_, _, _, _, _, cells, hcell⟩ := hk
    rw [hcell] at ho
    cases ho
    cases hc)) (fun _ _ => trivial)
theorem LI_own (k : Nat) (w : World) (N B : Nat) (hN : N ≤ w.heap.size) (hB : N ≤ B) : OwnFrom B (LI k w N) := by
  rintro pre X Y row ⟨out, at_, v, u, h1, h2, hz8, b0, b1, b2, b3, b4, b5, b6, b7, hR, hb⟩ hg hr
  have hr' : ∀ r, row = some r → ∃ o : Obj, X.heap[r]? = some o ∧ o.isCells = false := fun r e => (hr r e).2
  exact ⟨out, at_, v, u, h1, h2, Nat.le_trans hz8 hg.size, box_grown b0 hg hr', box_grown b1 hg hr', box_grown b2 hg hr', box_grown b3 hg hr', box_grown b4 hg hr', box_grown b5 hg hr', box_grown b6 hg hr', box_grown b7 hg hr', row_grown hR hg hr',
    hb.grown hg (Nat.le_trans hN hb.size) (fun r e => Nat.le_trans hB (hr r e).1)⟩
theorem LR_own (k : Nat) (w : World) (N B : Nat) (hN : N ≤ w.heap.size) (hB : N ≤ B) : OwnFrom B (LR k w N) := by
  rintro pre X Y row ⟨q, h1, b0, b1, b2, hb⟩ hg hr
  have hr' : ∀ r, row = some r → ∃ o : Obj, X.heap[r]? = some o ∧ o.isCells = false := fun r e => (hr r e).2
  exact ⟨q, h1, box_grown b0 hg hr', box_grown b1 hg hr', box_grown b2 hg hr', hb.grown hg (Nat.le_trans hN hb.size) (fun r e => Nat.le_trans hB (hr r e).1)⟩
theorem LI_step (k : Nat) (w : World) (N : Nat) (pre : List ByteArray) (A B : World) (h : LI k w N pre A) (hs : SplitSt (N + 5) A B) : LI k w N pre B := by
  obtain ⟨u', rfl⟩ := hs
  obtain ⟨out, at_, v, u, h1, h2, hz8, b0, b1, b2, b3, b4, b5, b6, b7, hR, hb⟩ := h
  exact ⟨out, at_, v, u', h1, h2, by rw [setCell_size]; exact hz8, box_other b0 (by omega) _, box_other b1 (by omega) _, box_other b2 (by omega) _, box_other b3 (by omega) _, box_other b4 (by omega) _, b5.set _, box_other b6 (by omega) _, box_other b7 (by omega) _, Kd.S_set hR b5 (by decide) 0 _, hb.setCell (p := ⟨N + 5, 0, none⟩) (by show N ≤ N + 5; omega) _⟩
theorem LR_step (k : Nat) (w : World) (N : Nat) (pre : List ByteArray) (A B : World) (h : LR k w N pre A) (hs : SplitSt (N + 5) A B) : LR k w N pre B := by
  obtain ⟨u', rfl⟩ := hs
  obtain ⟨q, h1, b0, b1, b2, hb⟩ := h
  exact ⟨q, h1, box_other b0 (by omega) _, box_other b1 (by omega) _, box_other b2 (by omega) _, hb.setCell (p := ⟨N + 5, 0, none⟩) (by show N ≤ N + 5; omega) _⟩
theorem info32_l : (Tryd.prog.info? 32).map (fun i => (i.zero, i.size, i.bytes)) = some (some (.agg #[(.int .i64 0), (.slice none 0 0)]), 2, 32) := by kernel_rfl
theorem lines_results {W : World} {N : Nat} {tmps : Array Value} {A : Option Addr} {n c : Nat} {r2 r3 : Int} (h0 : W.cell? ⟨N, 0, none⟩ = some (.slice A n c)) (h1 : W.cell? ⟨N + 1, 0, none⟩ = some (.int .i64 r2)) (h2 : W.cell? ⟨N + 2, 0, none⟩ = some (.int .i64 r3))
    (t2 : tmps.getD 2 undef = .pointer (some ⟨N, 0, none⟩)) (t3 : tmps.getD 3 undef = .pointer (some ⟨N + 1, 0, none⟩)) (t4 : tmps.getD 4 undef = .pointer (some ⟨N + 2, 0, none⟩)) :
    (results Tryd.f7 tmps).run Tryd.prog W = .ok (.tuple #[.slice A n c, .int .i64 r2, .int .i64 r3]) W := by
  simp only [Array.getD_eq_getD_getElem?] at t2 t3 t4
  simp [results, Tryd.results7, go_sem, h0, h1, h2, t2, t3, t4]
theorem lines_end {w W : World} {N D : Nat} {tmps : Array Value} {A : Option Addr} {n c : Nat} {r1 : List S32} {r2 r3 : Int} (hN : N = w.heap.size) (b0 : Boxed W N 25 (.slice A n c)) (b1 : Boxed W (N + 1) 3 (.int .i64 r2)) (b2 : Boxed W (N + 2) 26 (.int .i64 r3))
    (t2 : tmps.getD 2 undef = .pointer (some ⟨N, 0, none⟩)) (t3 : tmps.getD 3 undef = .pointer (some ⟨N + 1, 0, none⟩)) (t4 : tmps.getD 4 undef = .pointer (some ⟨N + 2, 0, none⟩))
    (hR : Kd.S k32 32 W N (fun _ => True) (.slice A n c) r1) (hb : Below N w W) (hK : W.heap[D]? = some (.deferred (some []))) (hD : N ≤ D) :
    bodyPostM Fence.wide 0 Tryd.prog Tryd.f7 (fun e w' => ∃ v0_ : Value, e = .returned (.tuple #[v0_, .int .i64 r2, .int .i64 r3]) ∧ Kd.S k32 32 w' w.heap.size (fun _ => True) v0_ r1 ∧ Below w.heap.size w w') .ret
      { tmps := tmps, defers := [{ target := .collected D, args := #[] }] } W := by
  have hg := grownBy_putObj' W D (.deferred none)
  have hr : ∀ r, some D = some r → ∃ o : Obj, W.heap[r]? = some o ∧ o.isCells = false := fun r e => by cases e; exact ⟨_, hK, rfl⟩
  refine ⟨by simp, .inl ⟨_, _, rfl, run_takeDeferred hK, ?_⟩⟩
  refine ⟨_, lines_results (box_grown b0 hg hr).cell (box_grown b1 hg hr).cell (box_grown b2 hg hr).cell t2 t3 t4, _, rfl, ?_, ?_⟩
  · rw [← hN]; exact row_grown hR hg hr
  · rw [← hN]; exact hb.grown hg (by have := hb.size; omega) (fun r e => by cases e; exact hD)
theorem lines_end0 (w : World) {tmps : Array Value} (t2 : tmps.getD 2 undef = .pointer (some ⟨w.heap.size, 0, none⟩) ) (t3 : tmps.getD 3 undef = .pointer (some ⟨w.heap.size + 1, 0, none⟩) ) (t4 : tmps.getD 4 undef = .pointer (some ⟨w.heap.size + 2, 0, none⟩)) :
    bodyPostM Fence.wide 0 Tryd.prog Tryd.f7 (fun e w' => ∃ v0_ : Value, e = .returned (.tuple #[v0_, .int .i64 0, .int .i64 8]) ∧ Kd.S k32 32 w' w.heap.size (fun _ => True) v0_ [] ∧ Below w.heap.size w w') .ret
      { tmps := tmps, defers := [] } (((w.alloc (.cells #[.slice none 0 0] 25)).alloc (.cells #[.int .i64 0] 3)).alloc (.cells #[.int .i64 8] 26)) := by
  refine ⟨_, lines_results (((box_new w _ rfl 25 (.slice none 0 0)).alloc _).alloc _).cell ((box_new (w.alloc (.cells #[.slice none 0 0] 25)) (w.heap.size + 1) (by simp) 3 (.int .i64 0)).alloc _).cell (box_new _ (w.heap.size + 2) (by simp) 26 (.int .i64 8)).cell t2 t3 t4, _, rfl, Kd.S_nil _ _ _ _ _, ?_⟩
  exact (((Below.refl _ _).alloc (Nat.le_refl _) _).alloc (by simp) _).alloc (by simp; omega) _
set_option maxHeartbeats 1000000 in
set_option maxRecDepth 100000 in
theorem line_Lines.calls (k : Nat) (a0 : ByteArray) (r1 : List S32) (r2 r3 : Int) (w : World) (h : line_Lines.f k a0 = some (r1, r2, r3)) :
    Calls Tryd.prog 7 #[.string a0] w fun e w' => ∃ v0_ : Value, e = .returned (.tuple #[v0_, .int .i64 r2, .int .i64 r3]) ∧ Kd.S k32 32 w' w.heap.size (fun _ => True) v0_ r1 ∧ Below w.heap.size w w' := by
  refine (callsIn_wide (n := 0)).1 ?_
  refine callsIn_of_wp_marks Tryd.func7 rfl trivial ?_ rfl
  simp only [Tryd.ntmps7, List.size_toArray, List.length_cons, List.length_nil, Nat.reduceAdd, Nat.reduceSub, Array.replicate_succ, Array.replicate_zero, List.push_toArray, List.append_toArray, List.nil_append, List.cons_append]
  unfold line_Lines.f at h
  have hcnt := Tryd.strings_Count_one a0 10
  by_cases c1 : 200000 < a0.size
  · rw [if_pos c1] at h
    simp only [Option.some.injEq, Prod.mk.injEq] at h
    obtain ⟨rfl, rfl, rfl⟩ := h
    have c1b : decide ((200000 : Int) < (a0.size : Int)) = true := decide_eq_true (by omega)
    gi_wp2
    refine ⟨trivial, ?_⟩
    gi_wp2
    refine lines_end0 _ ?_ ?_ ?_ <;> rfl
  · rw [if_neg c1] at h
    have c1b : decide ((200000 : Int) < (a0.size : Int)) = false := decide_eq_false (by omega)
    by_cases c2 : 5000 < Lib.countByte a0.data.toList 10
    · rw [if_pos c2] at h
      simp only [Option.some.injEq, Prod.mk.injEq] at h
      obtain ⟨rfl, rfl, rfl⟩ := h
      have c2b : decide ((5000 : Int) < ((Lib.countByte a0.data.toList 10 : Nat) : Int)) = true := decide_eq_true (by omega)
      gi_wp2_with (refine ⟨trivial, rfl, ?_⟩; gi_at_call 14; refine (callsIn_wide.2 (hcnt _)).mono ?_; rintro e w' ⟨rfl, rfl⟩)
      refine lines_end0 _ ?_ ?_ ?_ <;> rfl
    · rw [if_neg c2] at h
      have c2b : decide ((5000 : Int) < ((Lib.countByte a0.data.toList 10 : Nat) : Int)) = false := decide_eq_false (by omega)
      have hss := strings_SplitSeq.calls a0 ⟨#[10]⟩
      have H := Aside0.mk h
      have C1 := Aside0.mk c1
      have C2 := Aside0.mk c2
      clear h c1 c2
      gi_wp2_with (first | (refine ⟨trivial, rfl, ?_⟩; gi_at_call 14; refine (callsIn_wide.2 (hcnt _)).mono ?_; rintro e w' ⟨rfl, rfl⟩) | (refine ⟨trivial, rfl, ?_⟩; gi_at_call 15; refine (callsIn_wide.2 (hss _)).mono ?_; rintro e w' ⟨rfl, rfl⟩))
      simp only [Nat.add_assoc, Nat.reduceAdd]
      obtain ⟨N, hN⟩ : ∃ N, N = w.heap.size := ⟨_, rfl⟩
      rw [← hN]
      obtain ⟨W0, hW0⟩ : ∃ W0, W0 = ((((((((w.alloc (.cells #[.slice none 0 0] 25)).alloc (.cells #[.int .i64 0] 3)).alloc (.cells #[.int .i64 0] 26)).alloc (.cells #[.slice none 0 0] 25)).alloc (.cells #[.int .i64 0] 3)).alloc (.cells #[.string a0] 9)).alloc (.cells #[.string ⟨#[10]⟩] 9)).alloc (.cells #[.int .i64 0] 3)) := ⟨_, rfl⟩
      rw [← hW0]
      have hz0 : W0.heap.size = N + 8 := by rw [hW0, hN]; simp
      have b0 : Boxed W0 N 25 (.slice none 0 0) := by rw [hW0]; exact (((((((box_new _ _ (by simp [hN]) _ _).alloc _).alloc _).alloc _).alloc _).alloc _).alloc _).alloc _
      have b1 : Boxed W0 (N + 1) 3 (.int .i64 0) := by rw [hW0]; exact ((((((box_new _ _ (by simp [hN]) _ _).alloc _).alloc _).alloc _).alloc _).alloc _).alloc _
      have b2 : Boxed W0 (N + 2) 26 (.int .i64 0) := by rw [hW0]; exact (((((box_new _ _ (by simp [hN]) _ _).alloc _).alloc _).alloc _).alloc _).alloc _
      have b3 : Boxed W0 (N + 3) 25 (.slice none 0 0) := by rw [hW0]; exact ((((box_new _ _ (by simp [hN]) _ _).alloc _).alloc _).alloc _).alloc _
      have b4 : Boxed W0 (N + 4) 3 (.int .i64 0) := by rw [hW0]; exact (((box_new _ _ (by simp [hN]) _ _).alloc _).alloc _).alloc _
      have b5 : Boxed W0 (N + 5) 9 (.string a0) := by rw [hW0]; exact ((box_new _ _ (by simp [hN]) _ _).alloc _).alloc _
      have b6 : Boxed W0 (N + 6) 9 (.string ⟨#[10]⟩) := by rw [hW0]; exact (box_new _ _ (by simp [hN]) _ _).alloc _
      have b7 : Boxed W0 (N + 7) 3 (.int .i64 0) := by rw [hW0]; exact box_new _ _ (by simp [hN]) _ _
      have hb0 : Below N w W0 := by
        rw [hW0, hN]
        exact ((((((((Below.refl _ _).alloc (Nat.le_refl _) _).alloc (by simp) _).alloc (by simp; omega) _).alloc (by simp; omega) _).alloc (by simp; omega) _).alloc (by simp; omega) _).alloc (by simp; omega) _).alloc (by simp; omega) _
      clear hW0
      have hsz : a0.size ≤ 140737488355328 := by have := C1.out; omega
      have hNle : N ≤ w.heap.size := by omega
      have HN := Lib.hid hN
      clear hN
      refine range_law (gf := 32) (lb := #[.pointer (some ⟨N + 6, 0, none⟩), .pointer (some ⟨N + 5, 0, none⟩), .pointer (some ⟨N + 7, 0, none⟩)]) (encs := fun x : ByteArray => #[Value.string x]) (St := SplitSt (N + 5)) (Kp := SplitKp (N + 6) (N + 5) (N + 7))
        (S := fun xs => xs = splitB 10 a0) (Sp := fun pre => pre <+: splitB 10 a0) (Nx := fun pre x => pre ++ [x] <+: splitB 10 a0) rfl (enters_of Tryd.func32 (by kernel_rfl) rfl) ?iter ?hst ?hkt ?hkb (fun _ => rfl)
        (LI k w N) (LR k w N) (LI_own k w N _ (by omega) (by omega)) (LR_own k w N _ (by omega) (by omega)) (LI_step k w N) (LR_step k w N) ?h0
        (fun x => { tmps := #[.string a0, undef, .pointer (some ⟨N, 0, none⟩), .pointer (some ⟨N + 1, 0, none⟩), .pointer (some ⟨N + 2, 0, none⟩), .pointer (some ⟨N + 3, 0, none⟩), .pointer (some ⟨N + 4, 0, none⟩), .string x, undef, undef, undef,
          .string a0, .int .i64 a0.size, .bool false, .bool false, .string a0, .int .i64 (Lib.countByte a0.data.toList 10 : Nat), .bool false, .bool false, .string a0,
          .func (.func 32) #[] #[.pointer (some ⟨N + 6, 0, none⟩), .pointer (some ⟨N + 5, 0, none⟩), .pointer (some ⟨N + 7, 0, none⟩)], .string x,
          undef, undef, undef, undef, undef, undef, undef, undef, undef, undef, undef, undef, undef, undef, undef, undef, undef, undef, undef, undef, undef, undef, undef, undef, undef, undef, undef, undef, undef, undef], defers := [] })
        ?assign ?body ?done ?stop
      case iter =>
        intro W hW
        exact split_iter (N + 6) (N + 5) (N + 7) (by omega) (by omega) a0 W ((hW.block _ (by omega)).trans b6) ((hW.block _ (by omega)).trans b5) ((hW.block _ (by omega)).trans b7) hsz
      case hst =>
        rintro A B kk ⟨u, rfl⟩ hle
        exact Below.heap_setCell _ _ _ kk (by show kk ≠ N + 5; omega)
      case hkt =>
        rintro A B C ⟨x1, x2, x3⟩ ⟨y1, y2, y3⟩
        exact ⟨y1.trans x1, y2.trans x2, y3.trans x3⟩
      case hkb =>
        intro W l o hl
        exact ⟨World.putObj_heap_other (by omega), World.putObj_heap_other (by omega), World.putObj_heap_other (by omega)⟩
      case h0 => exact ⟨[], 0, .slice none 0 0, a0, fun rest => rfl, Nat.le_refl _, by omega, b0, b1, b2, b3, b4, b5, b6, b7, Kd.S_nil _ _ _ _ _, hb0⟩
      case assign =>
        intro l x W K hK
        gi_wp2
        exact hK
      case body =>
        rintro l pre x W ⟨out, at_, v, u, h1, h2, hz8, b0, b1, b2, b3, b4, b5, b6, b7, hR, hb⟩ ⟨rest, hpre⟩
        obtain ⟨A, c, rfl⟩ := Kd.R_slice (Kd.S_R hR)
        have hp : pre ++ x :: rest = splitB 10 a0 := by rw [← hpre]; simp
        have e1 := h1 (x :: rest)
        rw [hp, H.out] at e1
        replace e1 := e1.symm
        unfold line_Lines.go at e1
        obtain ⟨t, ht, e1⟩ := Option.bind_eq_some_iff.1 e1
        obtain ⟨q, hq, e1⟩ := Option.bind_eq_some_iff.1 e1
        have hgo : ∀ rest, line_Lines.go k (pre ++ [x] ++ rest) [] 0 = (if 0 ≤ q then some ([], wrap64 (at_ + q), 7)
            else (line_words.f k t at_).bind fun ws => if 0 < ws.length then line_Lines.go k rest (out ++ [(⟨(rd_T34 ws 0).f1, ws⟩ : S32)]) (wrap64 (at_ + wrap64 ((x.size : Int) + 1))) else line_Lines.go k rest out (wrap64 (at_ + wrap64 ((x.size : Int) + 1)))) := by
          intro rest
          rw [List.append_assoc, h1]
          show line_Lines.go k (x :: rest) out at_ = _
          rw [show line_Lines.go k (x :: rest) out at_ = (line_bare.f x).bind fun t => (line_wrong.f k t).bind fun q => if 0 ≤ q then some ([], wrap64 (at_ + q), 7) else (line_words.f k t at_).bind fun ws => if 0 < ws.length then line_Lines.go k rest (out ++ [(⟨(rd_T34 ws 0).f1, ws⟩ : S32)]) (wrap64 (at_ + wrap64 ((x.size : Int) + 1))) else line_Lines.go k rest out (wrap64 (at_ + wrap64 ((x.size : Int) + 1))) from rfl]
          rw [ht, Option.bind_some, hq, Option.bind_some]
        have hpl : pre.length ≤ 5000 := by
          have e := splitB_length 10 a0
          rw [← hp, List.length_append, List.length_cons] at e
          have := C2.out
          unfold Lib.countByte at this
          omega
        have HPL := Aside0.mk hpl
        clear hpl
        have HG := Aside0.mk hgo
        have HB := Aside0.mk hb
        have HR := Aside0.mk hR
        have H2 := Aside0.mk h2
        have HZ8 := Aside0.mk hz8
        clear hz8
        clear h1 hpre hp hgo hb hR h2
        have hbare := line_bare.calls x t W ht
        have hwrong := line_wrong.calls k t q
        have c4 := b4.cell
        have f4 := b4.frozen
        have c3 := b3.cell
        have f3 := b3.frozen
        have c0 := b0.cell
        have c1 := b1.cell
        have c2 := b2.cell
        have f0 := b0.frozen
        have f1 := b1.frozen
        have f2 := b2.frozen
        have HT := Aside0.mk ht
        have HQ := Aside0.mk hq
        clear ht hq
        by_cases d1 : 0 ≤ q
        · have d1b : decide (0 ≤ q) = true := decide_eq_true d1
          have hgo2 := HG.out
          simp only [if_pos d1] at hgo2
          have HG2 := Aside0.mk hgo2
          clear hgo2 HG e1 d1
          gi_wp2_with (first | (refine ⟨trivial, rfl, ?_⟩; gi_at_call 16; refine (CallsIn.inRound l (callsIn_wide.2 hbare)).mono ?_; rintro e w' ⟨rfl, ⟨nd0, rfl⟩⟩) | (refine ⟨trivial, rfl, ?_⟩; gi_at_call 17; refine (CallsIn.inRound l (callsIn_wide.2 (hwrong _ HQ.out))).mono ?_; rintro e w' ⟨rfl, ⟨nd, rfl⟩⟩))
          refine region_round (fun w' => w'.cell? ⟨N + 4, 0, none⟩ = some (.int .i64 at_)) (by kernel_rfl) (by kernel_rfl) (fun ⟨_, _, h⟩ => h) c4 (fun hH => ?_)
          refine wpAnyH_take (i := 0) (v := .int .i64 at_) rfl (by kernel_rfl) (by kernel_rfl) (by kernel_rfl) (fun _ _ _ h => h) (Or.inl ⟨by rfl, ?_⟩) hH ?_
          · intro w hSw
            go_simp
          simp only [Act.put, List.setIfInBounds_toArray, List.set_cons_zero, List.set_cons_succ]
          refine wpAnyH_take (i := 1) (v := .int .i64 q) rfl (by kernel_rfl) (by kernel_rfl) (by kernel_rfl) (fun _ _ _ h => h) (Or.inl ⟨by rfl, ?_⟩) hH ?_
          · intro w hSw
            go_simp
          simp only [Act.put, List.setIfInBounds_toArray, List.set_cons_zero, List.set_cons_succ]
          refine wpAnyH_take (i := 2) (v := .int .i64 (wrap64 (at_ + q))) rfl (by kernel_rfl) (by kernel_rfl) (by kernel_rfl) (fun _ _ _ h => h) (Or.inl ⟨by rfl, ?_⟩) hH ?_
          · intro w hSw
            go_simp
            exact i64_w _
          simp only [Act.put, List.setIfInBounds_toArray, List.set_cons_zero, List.set_cons_succ]
          refine wpAnyH_ready (rs := [3]) (by kernel_rfl) (by simp) ?_
          refine AllReadyH.cons rfl (fun K hK => ?_) AllReadyH.nil
          go_simp
          refine hK.out _ _ ?_ (fun hH => ?_)
          · exact (box_other (W := W.drewN _) b4 (by omega) _).cell
          clear hK K
          refine wpAnyH_ready (rs := [4]) (by kernel_rfl) (by simp) ?_
          refine AllReadyH.cons rfl (fun K hK => ?_) AllReadyH.nil
          go_simp
          refine hK.out _ _ ?_ (fun hH => ?_)
          · exact (box_other (box_other (W := W.drewN _) b4 (by omega) _) (by omega) _).cell
          clear hK K
          refine wpAnyH_ready (rs := [5]) (by kernel_rfl) (by simp) ?_
          refine AllReadyH.cons rfl (fun K hK => ?_) AllReadyH.nil
          go_simp
          refine hK.out _ _ ?_ (fun hH => ?_)
          · exact (box_other (box_other (box_other (W := W.drewN _) b4 (by omega) _) (by omega) _) (by omega) _).cell
          clear hK K
          refine wpAnyH_done (by kernel_rfl) ?_ _
          gi_wp2
          refine ⟨(((keeps_drewN W _).trans (KeepsOthers.setCell _ _ _)).trans (KeepsOthers.setCell _ _ _)).trans (KeepsOthers.setCell _ _ _) |>.from _, ?_⟩
          exact ⟨_, HG2.out, box_other (box_other (Boxed.set (W := W.drewN _) _ b0) (by omega) _) (by omega) _, box_other ((box_other (W := W.drewN _) b1 (by omega) _).set _) (by omega) _, (box_other (box_other (W := W.drewN _) b2 (by omega) _) (by omega) _).set _,
            (((pw_below_drewN HB.out _).setCell (p := ⟨N, 0, none⟩) (Nat.le_refl _) _).setCell (p := ⟨N + 1, 0, none⟩) (by show N ≤ N + 1; omega) _).setCell (p := ⟨N + 2, 0, none⟩) (by show N ≤ N + 2; omega) _⟩
        · have d1b : decide (0 ≤ q) = false := decide_eq_false d1
          rw [if_neg d1] at e1
          obtain ⟨ws, hws, e1⟩ := Option.bind_eq_some_iff.1 e1
          have hgo2 : ∀ rest, line_Lines.go k (pre ++ [x] ++ rest) [] 0 = if 0 < ws.length then line_Lines.go k rest (out ++ [(⟨(rd_T34 ws 0).f1, ws⟩ : S32)]) (wrap64 (at_ + wrap64 ((x.size : Int) + 1))) else line_Lines.go k rest out (wrap64 (at_ + wrap64 ((x.size : Int) + 1))) := by
            intro rest
            rw [HG.out, if_neg d1, hws, Option.bind_some]
          have HG2 := Aside0.mk hgo2
          clear hgo2 HG e1 d1
          have hwords := line_words.calls k t at_ ws
          have HW := Aside0.mk hws
          clear hws
          gi_wp2_with (first | (refine ⟨trivial, rfl, ?_⟩; gi_at_call 16; refine (CallsIn.inRound l (callsIn_wide.2 hbare)).mono ?_; rintro e w' ⟨rfl, ⟨nd0, rfl⟩⟩) | (refine ⟨trivial, rfl, ?_⟩; gi_at_call 17; refine (CallsIn.inRound l (callsIn_wide.2 (hwrong _ HQ.out))).mono ?_; rintro e w' ⟨rfl, ⟨nd, rfl⟩⟩) | fail)
          obtain ⟨Wd, hWd⟩ : ∃ Wd, Wd = W.drewN (nd0 + nd) := ⟨_, rfl⟩
          have hk0 : KeepsOthers W Wd := by rw [hWd]; exact keeps_drewN W _
          have hs0 : ∀ i : Nat, Wd.heap[i]? = W.heap[i]? := by rw [hWd]; exact fun _ => rfl
          have hb1 : Below N w Wd := by rw [hWd]; exact pw_below_drewN HB.out _
          have hR1 : Kd.S k32 32 Wd N (fun _ => True) (.slice A out.length c) out := by rw [hWd]; exact Kd.S_drewN HR.out _
          rw [← hWd]
          have HWd := Lib.hid hWd
          clear hWd
          refine ⟨trivial, rfl, (CallsIn.inRound l (callsIn_wide.2 (hwords Wd HW.out))).mono ?_⟩
          rintro e w2 ⟨vw, rfl, hRw, hBw⟩
          obtain ⟨Aw, cw, rfl⟩ := Kd.R_slice hRw
          have hs1 : ∀ i, i < W.heap.size → w2.heap[i]? = W.heap[i]? := fun i hi => (hBw.block i (by have := hk0.size; omega)).trans (hs0 i)
          have k0 : Boxed w2 N 25 (.slice none 0 0) := (hs1 _ b0.lt).trans b0
          have k1 : Boxed w2 (N + 1) 3 (.int .i64 0) := (hs1 _ b1.lt).trans b1
          have k2 : Boxed w2 (N + 2) 26 (.int .i64 0) := (hs1 _ b2.lt).trans b2
          have k3 : Boxed w2 (N + 3) 25 (.slice A out.length c) := (hs1 _ b3.lt).trans b3
          have k4 : Boxed w2 (N + 4) 3 (.int .i64 at_) := (hs1 _ b4.lt).trans b4
          have k5 : Boxed w2 (N + 5) 9 (.string u) := (hs1 _ b5.lt).trans b5
          have k6 : Boxed w2 (N + 6) 9 (.string ⟨#[10]⟩) := (hs1 _ b6.lt).trans b6
          have k7 : Boxed w2 (N + 7) 3 (.int .i64 0) := (hs1 _ b7.lt).trans b7
          have kc4 := k4.cell
          have kf4 := k4.frozen
          have kc3 := k3.cell
          have kf3 := k3.frozen
          have hbw : Below N w w2 := hb1.trans (hBw.mono (by have := hb1.size; omega))
          have hkw : KeepsOthers W w2 := hk0.trans ⟨hBw.size, fun k_ o_ hk_ _ => (hBw.block _ (Array.getElem?_eq_some_iff.1 hk_).1).trans hk_⟩
          have hR2 : Kd.S k32 32 w2 N (fun _ => True) (.slice A out.length c) out := Kd.S_below hR1 hBw
          clear c0 c1 c2 c3 c4 f0 f1 f2 f3 f4
          by_cases d2 : ws = []
          · subst d2
            gi_wp2
            have hz8 := HZ8.out
            refine ⟨(hkw.trans (KeepsOthers.setCell _ _ _)).from _, ⟨(Below.heap_setCell _ _ _ _ (by show N + 6 ≠ N + 4; omega)).trans (hs1 _ (by omega)), (Below.heap_setCell _ _ _ _ (by show N + 5 ≠ N + 4; omega)).trans (hs1 _ (by omega)), (Below.heap_setCell _ _ _ _ (by show N + 7 ≠ N + 4; omega)).trans (hs1 _ (by omega))⟩, ?_⟩
            exact ⟨out, _, _, u, fun rest => (HG2.out rest).trans (if_neg (by simp)), by have := H2.out; simp; omega, by rw [setCell_size]; exact Nat.le_trans hz8 hkw.size, box_other k0 (by omega) _, box_other k1 (by omega) _, box_other k2 (by omega) _, box_other k3 (by omega) _, k4.set _, box_other k5 (by omega) _, box_other k6 (by omega) _, box_other k7 (by omega) _,
              Kd.S_set hR2 k4 (by decide) 0 _, hbw.setCell (p := ⟨N + 4, 0, none⟩) (by show N ≤ N + 4; omega) _⟩
          · have hl : 0 < ws.length := List.length_pos_iff.2 d2
            have e1 : decide ((0 : Int) < (ws.length : Int)) = true := decide_eq_true (by omega)
            have e2 : decide (0 < ws.length) = true := decide_eq_true hl
            obtain ⟨A', c', hv, hle, hC⟩ := Kd.R_reads hRw
            injection hv with hv1 hv2 hv3
            subst hv1
            clear hv2 hv3
            obtain ⟨ad, rfl, hx0, hx1⟩ := at_T34 hC 0 (by omega) (by omega)
            have e3 := eq_true (show (0 : Int) < (ws.length : Int) by omega)
            have HC := Aside0.mk hC
            have HGO : ∀ rest, line_Lines.go k (pre ++ [x] ++ rest) [] 0 = line_Lines.go k rest (out ++ [(⟨(rd_T34 ws 0).f1, ws⟩ : S32)]) (wrap64 (at_ + wrap64 ((x.size : Int) + 1))) := fun rest => (HG2.out rest).trans (if_pos hl)
            have HGO := Aside0.mk HGO
            have hlt1 := Kd.S_lt hR1
            have hRn : Kd.R k34 34 w2 N (fun k => Wd.heap.size ≤ k) (.slice (some ad) ws.length cw) ws := Kd.R_lower (Kd.R_mono (Kd.R_bound hRw) (fun _ hk => hk.2.1)) (show N ≤ Wd.heap.size by have := hb1.size; omega)
            have hRq : Kd.S k32 32 w2 N (fun k => k < Wd.heap.size) (.slice A out.length c) out := Kd.S_below (Kd.S_mono (Kd.S_bound hR1) (fun _ hk => hk.2.2.1)) hBw
            have HRQ := Aside0.mk hRq
            have HLT := Aside0.mk hlt1
            have HRN := Aside0.mk hRn
            have HR2 := Aside0.mk hR2
            have HR1 := Aside0.mk hR1
            have HRW := Aside0.mk hRw
            have HBW := Aside0.mk hbw
            have HKW := Aside0.mk hkw
            have D2 := Aside0.mk d2
            clear hC HG2 hRn hR2 hR1 hRw hbw hkw hRq hlt1 d2 hle hl
            simp only [Int.toNat_zero, Nat.zero_mul] at hx0 hx1
            have ead : ad.add 0 = ad := by simp [Addr.add]
            rw [ead] at hx0 hx1
            clear ead
            gi_wp2
            refine region_round_any (by kernel_rfl) (by kernel_rfl) (fun ⟨_, _, h⟩ => h) (wpAny_of_last (S := fun w' => w'.cell? ⟨N + 3, 0, none⟩ = some (.slice A out.length c) ∧ w'.cell? ⟨ad.block, ad.off + 1, none⟩ = some (.int .i64 (rd_T34 ws 0).f1)) (ds := [8, 9]) _ _ _ _ ?_)
            have hS : (fun w' : World => w'.cell? ⟨N + 3, 0, none⟩ = some (.slice A out.length c) ∧ w'.cell? ⟨ad.block, ad.off + 1, none⟩ = some (.int .i64 (rd_T34 ws 0).f1)) w2.drew := ⟨kc3, hx1⟩
            refine wpAnyLast_take (i := 0) (v := .slice A out.length c) rfl (by kernel_rfl) (by kernel_rfl) (by kernel_rfl) (by kernel_rfl) (by kernel_rfl) (fun _ _ _ h => h) (Or.inl ⟨by rfl, ?_⟩) hS ?_
            · rintro w ⟨g1, g2⟩
              go_simp
            simp only [Act.put, List.setIfInBounds_toArray, List.set_cons_zero, List.set_cons_succ]
            refine wpAnyLast_take (i := 1) (v := .slice (some ad) ws.length cw) rfl (by kernel_rfl) (by kernel_rfl) (by kernel_rfl) (by kernel_rfl) (by kernel_rfl) (fun _ _ _ h => h) (Or.inl ⟨by rfl, ?_⟩) hS ?_
            · rintro w ⟨g1, g2⟩
              go_simp
            simp only [Act.put, List.setIfInBounds_toArray, List.set_cons_zero, List.set_cons_succ]
            refine wpAnyLast_take (i := 2) (v := .pointer (some ad)) rfl (by kernel_rfl) (by kernel_rfl) (by kernel_rfl) (by kernel_rfl) (by kernel_rfl) (fun _ _ _ h => h) (Or.inl ⟨by rfl, ?_⟩) hS ?_
            · rintro w ⟨g1, g2⟩
              go_simp
              exact fun h => absurd h D2.out
            simp only [Act.put, List.setIfInBounds_toArray, List.set_cons_zero, List.set_cons_succ]
            refine wpAnyLast_take (i := 3) (v := .pointer (some ⟨ad.block, ad.off + 1, none⟩)) rfl (by kernel_rfl) (by kernel_rfl) (by kernel_rfl) (by kernel_rfl) (by kernel_rfl) (fun _ _ _ h => h) (Or.inl ⟨by rfl, ?_⟩) hS ?_
            · rintro w ⟨g1, g2⟩
              go_simp
            simp only [Act.put, List.setIfInBounds_toArray, List.set_cons_zero, List.set_cons_succ]
            refine wpAnyLast_take (i := 4) (v := .int .i64 (rd_T34 ws 0).f1) rfl (by kernel_rfl) (by kernel_rfl) (by kernel_rfl) (by kernel_rfl) (by kernel_rfl) (fun _ _ _ h => h) (Or.inl ⟨by rfl, ?_⟩) hS ?_
            · rintro w ⟨g1, g2⟩
              go_simp
            simp only [Act.put, List.setIfInBounds_toArray, List.set_cons_zero, List.set_cons_succ]
            refine wpAnyLast_take (i := 5) (v := .slice (some ad) ws.length cw) rfl (by kernel_rfl) (by kernel_rfl) (by kernel_rfl) (by kernel_rfl) (by kernel_rfl) (fun _ _ _ h => h) (Or.inl ⟨by rfl, ?_⟩) hS ?_
            · rintro w ⟨g1, g2⟩
              go_simp
            simp only [Act.put, List.setIfInBounds_toArray, List.set_cons_zero, List.set_cons_succ]
            refine wpAnyLast_take (i := 6) (v := .agg #[.int .i64 (rd_T34 ws 0).f1, .slice (some ad) ws.length cw]) rfl (by kernel_rfl) (by kernel_rfl) (by kernel_rfl) (by kernel_rfl) (by kernel_rfl) (fun _ _ _ h => h) (Or.inl ⟨by rfl, ?_⟩) hS ?_
            · rintro w ⟨g1, g2⟩
              go_simp
            simp only [Act.put, List.setIfInBounds_toArray, List.set_cons_zero, List.set_cons_succ]
            refine wpAnyLast_ready (rs := [7]) (by kernel_rfl) (by simp) ?_
            refine AllReadyL.cons rfl (by decide) (fun K hK => ?_) AllReadyL.nil
            go_simp
            refine hK.out _ _ ⟨(Boxed.alloc (W := w2.drew) k3 _).cell, (cell_later hx1 (Obj.cells #[.int .i64 (rd_T34 ws 0).f1, .slice (some ad) ws.length cw] 32))⟩ (fun hS => ?_)
            clear hK K
            refine wpAnyLast_ready (rs := [8]) (by kernel_rfl) (by simp) ?_
            refine AllReadyL.cons_last rfl (by decide) (fun K hK => ?_) AllReadyL.nil
            refine Kd.S_append_step k32 (W := w2.drew) (w0 := w) N ?x1 (.tmp 37) (.tmp 44) 25 32 (.agg #[(.int .i64 0), (.slice none 0 0)]) 32 ?x2 Tryd.underlying25 info32_l rfl (by decide) (by decide) (.slice A out.length c) out (⟨(rd_T34 ws 0).f1, ws⟩ : S32) [.int .i64 (rd_T34 ws 0).f1, .slice (some ad) ws.length cw] (fun _ => True) (fun k => Wd.heap.size ≤ k) ?x3 ?x4 ?aP (fun k hk => ⟨trivial, fun e => by have := HLT.out k e.symm; omega⟩) (fun _ _ => trivial) ?aO ?aB ?aS ?aL ?_
            case x1 => rfl
            case x2 => rfl
            case x3 => rfl
            case x4 => rfl
            case aP => exact k32_mkM _ _ _ (⟨(rd_T34 ws 0).f1, ws⟩ : S32) (Kd.R_drewN HRN.out 1)
            case aO => exact Kd.S_drewN (Kd.S_mono HRQ.out (fun k hk => ⟨trivial, by omega⟩)) 1
            case aB => exact pw_below_drewN HBW.out 1
            case aS => have := HBW.out.size; exact Nat.le_trans hNle this
            case aL => have := H2.out; have := HPL.out; omega
            intro v1 w3 ho hb3 hg3 hat
            obtain ⟨A3, c3', rfl⟩ := Kd.R_slice (Kd.S_R ho)
            obtain ⟨inn2, hin2⟩ := Kd.R_own (Kd.S_R HR2.out)
            have far : ∀ {B : Nat} {t : TypeId} {v : Value}, Boxed w2 B t v → t ≠ 32 → Boxed w3 B t v := fun {B t v} hbx hne => Boxed.kept (W := w2.drew) hbx hg3 (Boxed.not_row (W := w2) hbx hne hin2)
            have m0 := far k0 (by decide)
            have m1 := far k1 (by decide)
            have m2 := far k2 (by decide)
            have m3 := far k3 (by decide)
            have m4 := far k4 (by decide)
            have m5 := far k5 (by decide)
            have m6 := far k6 (by decide)
            have m7 := far k7 (by decide)
            have mc3 := m3.cell
            have mf3 := m3.frozen
            have mc4 := m4.cell
            have mf4 := m4.frozen
            have hk3 : KeepsOthers w2 w3 := (KeepsOthers.drew w2).trans (KeepsOthers.of_grownBy hg3 (fun j o ej hj => by
              have hj' : w2.heap[j]? = some o := hj
              obtain ⟨cells, hc⟩ := own_typed hin2 j ej
              rw [hc] at hj'
              cases hj'
              rfl))
            have HO := Aside0.mk ho
            have HB3 := Aside0.mk hb3
            have hs3 : ∀ i, (∀ j, (Value.slice A out.length c).ownBlock = some j → i ≠ j) → i < w2.heap.size → w3.heap[i]? = w2.heap[i]? := fun i hne hi => hg3.block i hi (fun e => hne i e.symm rfl)
            have HS3 := Aside0.mk hs3
            have HK3 := Aside0.mk hk3
            have HG3 := Aside0.mk hg3
            clear ho hb3 hg3 hs3 hk3 hat hS far kc3 kf3 kc4 kf4 hx0 hx1
            refine hK.out _ _ ?_
            clear hK K
            simp only [Act.put, List.setIfInBounds_toArray, List.set_cons_zero, List.set_cons_succ]
            refine wpAnyLast_ready (rs := [9]) (by kernel_rfl) (by simp) ?_
            refine AllReadyL.cons_last rfl (by decide) (fun K hK => ?_) AllReadyL.nil
            go_simp
            refine hK.out _ _ ?_
            clear hK K
            refine wpAnyLast_done (by kernel_rfl) ?_ _
            gi_wp2
            have hz8 := HZ8.out
            have q3 := m3.set (Value.slice A3 (out.length + 1) c3')
            have q4 := box_other m4 (show N + 4 ≠ N + 3 by omega) (Value.slice A3 (out.length + 1) c3')
            refine ⟨((HKW.out.trans HK3.out).trans ((KeepsOthers.setCell _ _ _).trans (KeepsOthers.setCell _ _ _))).from _, ⟨?_, ?_, ?_⟩, ?_⟩
            · exact (box_other (box_other m6 (by omega) _) (by omega) _).trans b6.symm
            · exact (box_other (box_other m5 (by omega) _) (by omega) _).trans b5.symm
            · exact (box_other (box_other m7 (by omega) _) (by omega) _).trans b7.symm
            · refine ⟨out ++ [(⟨(rd_T34 ws 0).f1, ws⟩ : S32)], _, _, u, HGO.out, by have := H2.out; simp; omega, by rw [setCell_size, setCell_size]; exact Nat.le_trans hz8 (Nat.le_trans HKW.out.size HK3.out.size), box_other (box_other m0 (by omega) _) (by omega) _, box_other (box_other m1 (by omega) _) (by omega) _, box_other (box_other m2 (by omega) _) (by omega) _,
                box_other q3 (by omega) _, q4.set _, box_other (box_other m5 (by omega) _) (by omega) _, box_other (box_other m6 (by omega) _) (by omega) _, box_other (box_other m7 (by omega) _) (by omega) _, ?_, ?_⟩
              · have ho := HO.out
                rw [show (out ++ [(⟨(rd_T34 ws 0).f1, ws⟩ : S32)]).length = out.length + 1 from by simp] at ho
                exact Kd.S_set (Kd.S_set ho m3 (by decide) 0 _) q4 (by decide) 0 _
              · exact (HB3.out.setCell (p := ⟨N + 3, 0, none⟩) (by show N ≤ N + 3; omega) _).setCell (p := ⟨N + 4, 0, none⟩) (by show N ≤ N + 4; omega) _
      case done =>
        rintro D xs W hD rfl ⟨out, at_, v, u, h1, h2, hz8, b0, b1, b2, b3, b4, b5, b6, b7, hR, hb⟩ hK
        obtain ⟨A, c, rfl⟩ := Kd.R_slice (Kd.S_R hR)
        have e1 := h1 []
        rw [List.append_nil] at e1
        have e2 := H.out
        rw [e1] at e2
        unfold line_Lines.go at e2
        simp only [Option.some.injEq, Prod.mk.injEq] at e2
        obtain ⟨rfl, rfl, rfl⟩ := e2
        clear e1 h1
        have c0 := b0.cell
        have c1 := b1.cell
        have c2 := b2.cell
        have c3 := b3.cell
        have f0 := b0.frozen
        have f1 := b1.frozen
        have f2 := b2.frozen
        gi_wp2
        have hle : N ≤ D := by omega
        exact lines_end HN.out (box_other (box_other (b0.set _) (by omega) _) (by omega) _) (box_other ((box_other b1 (by omega) _).set _) (by omega) _) ((box_other (box_other b2 (by omega) _) (by omega) _).set _) rfl rfl rfl
          (Kd.S_set (Kd.S_set (Kd.S_set hR b0 (by decide) 0 _) (box_other b1 (by omega) _) (by decide) 0 _) (box_other (box_other b2 (by omega) _) (by omega) _) (by decide) 0 _)
          (((hb.setCell (p := ⟨N, 0, none⟩) (Nat.le_refl _) _).setCell (p := ⟨N + 1, 0, none⟩) (by show N ≤ N + 1; omega) _).setCell (p := ⟨N + 2, 0, none⟩) (by show N ≤ N + 2; omega) _)
          (defer_set (defer_set (defer_set hK _ _) _ _) _ _) hle
      case stop =>
        rintro D pre W hD ⟨rest, hp⟩ ⟨q, h1, b0, b1, b2, hb⟩ hK
        have e1 := h1 rest
        rw [hp] at e1
        have e2 := H.out
        rw [e1] at e2
        simp only [Option.some.injEq, Prod.mk.injEq] at e2
        obtain ⟨rfl, rfl, rfl⟩ := e2
        exact lines_end HN.out b0 b1 b2 rfl rfl rfl (Kd.S_nil _ _ _ _ _) hb hK (by omega)

end Go.Proofs.YtamgobcahgcejaaDoor.GC
