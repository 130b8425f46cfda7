-- Written by gprint.py, a program of this session's: the kit's printer over contracts that were proved by hand. Lean checks it.
import Derived.Test.YtppndhbeglcioaaCutB
import Derived.Test.YtppndhbeglcioaaGAx28
import Derived.Test.YtppndhbeglcioaaGAx30
import Derived.Test.YtppndhbeglcioaaGAx31
namespace Go.Proofs.Ytppndhbeglcioaa.GA
open Go.RowKit Go.Proofs.YtppndhbeglcioaaW.PrintWords Go.Proofs.YtppndhbeglcioaaW.PrintLast Go.Proofs.YtppndhbeglcioaaW.PrintMore
attribute [local go_sem] max2_int min2_int max_two min_two max_three min_three max_four min_four   -- for this text's walks alone
set_option linter.unusedVariables false
set_option linter.unusedSimpArgs false

/-! ### entailref22_May: function 18 -/
mutual
def entailref22_May.j0 : Nat → ByteArray → ByteArray → ByteArray → Bool → List ByteArray → List ByteArray → List ByteArray → List (S36) → List (S34) → List (S51) → Option (Bool)
  | 0, _, _, _, _, _, _, _, _, _, _ => none
  | k + 1, x1, x2, x3, x36, x501000, x501001, x501002, x501003, x501004, x501005 => if x36 = true then (some false) else (entailref22_May.l0 k x1 x2 x3 false 0 x501000 x501001 x501002 x501003 x501004 x501005)
def entailref22_May.l0 : Nat → ByteArray → ByteArray → ByteArray → Bool → Int → List ByteArray → List ByteArray → List ByteArray → List (S36) → List (S34) → List (S51) → Option (Bool)
  | 0, _, _, _, _, _, _, _, _, _, _, _ => none
  | k + 1, x1, x2, x3, x9, x10, x501000, x501001, x501002, x501003, x501004, x501005 => if x10 < (x501004.length : Int) then (if 0 ≤ x10 then ((entailref22_In.f k ((rd_T34 x501004 x10).f2) x1).bind fun t506 => (entailref22_May.l1 k x1 x2 x3 x9 x10 t506 0 x501000 x501001 x501002 x501003 x501004 x501005 ((rd_T34 x501004 x10).f0) ((rd_T34 x501004 x10).f1) ((rd_T34 x501004 x10).f2) ((rd_T34 x501004 x10).f3) ((rd_T34 x501004 x10).f4) ((rd_T34 x501004 x10).f5))) else (none)) else (entailref22_May.l2 k x1 x2 x3 x9 false false 0 x501000 x501001 x501002 x501003 x501004 x501005)
def entailref22_May.l1 : Nat → ByteArray → ByteArray → ByteArray → Bool → Int → Bool → Int → List ByteArray → List ByteArray → List ByteArray → List (S36) → List (S34) → List (S51) → ByteArray → Bool → List ByteArray → List ByteArray → List ByteArray → List ByteArray → Option (Bool)
  | 0, _, _, _, _, _, _, _, _, _, _, _, _, _, _, _, _, _, _, _ => none
  | k + 1, x1, x2, x3, x9, x10, x12, x13, x501000, x501001, x501002, x501003, x501004, x501005, x506000, x506001, x506002, x506003, x506004, x506005 => if x13 < (x506003.length : Int) then (if x12 = true then (entailref22_May.l1 k x1 x2 x3 x9 x10 true (wrap64 (x13 + 1)) x501000 x501001 x501002 x501003 x501004 x501005 x506000 x506001 x506002 x506003 x506004 x506005) else (if 0 ≤ x13 then ((entailref22_Inside.f k x501000 x501001 x501002 x501003 x501004 x501005 x1 (rdOf ByteArray.empty x506003 x13)).bind fun t508 => (entailref22_May.l1 k x1 x2 x3 x9 x10 t508 (wrap64 (x13 + 1)) x501000 x501001 x501002 x501003 x501004 x501005 x506000 x506001 x506002 x506003 x506004 x506005)) else (none))) else (if x12 = true then ((entailref22_matches.f k x506004 x2).bind fun t509 => (if t509 = true then ((entailref22_matches.f k x506005 x3).bind fun t510 => (entailref22_May.j3 k x1 x2 x3 x9 x10 (!t510) x501000 x501001 x501002 x501003 x501004 x501005 x506000 x506001 x506002 x506003 x506004 x506005)) else (entailref22_May.j3 k x1 x2 x3 x9 x10 true x501000 x501001 x501002 x501003 x501004 x501005 x506000 x506001 x506002 x506003 x506004 x506005))) else (entailref22_May.j3 k x1 x2 x3 x9 x10 true x501000 x501001 x501002 x501003 x501004 x501005 x506000 x506001 x506002 x506003 x506004 x506005))
def entailref22_May.j3 : Nat → ByteArray → ByteArray → ByteArray → Bool → Int → Bool → List ByteArray → List ByteArray → List ByteArray → List (S36) → List (S34) → List (S51) → ByteArray → Bool → List ByteArray → List ByteArray → List ByteArray → List ByteArray → Option (Bool)
  | 0, _, _, _, _, _, _, _, _, _, _, _, _, _, _, _, _, _, _ => none
  | k + 1, x1, x2, x3, x9, x10, x86, x501000, x501001, x501002, x501003, x501004, x501005, x506000, x506001, x506002, x506003, x506004, x506005 => if x86 = true then (entailref22_May.l0 k x1 x2 x3 x9 (wrap64 (x10 + 1)) x501000 x501001 x501002 x501003 x501004 x501005) else (if x506001 = true then (some false) else (entailref22_May.l0 k x1 x2 x3 true (wrap64 (x10 + 1)) x501000 x501001 x501002 x501003 x501004 x501005))
def entailref22_May.l2 : Nat → ByteArray → ByteArray → ByteArray → Bool → Bool → Bool → Int → List ByteArray → List ByteArray → List ByteArray → List (S36) → List (S34) → List (S51) → Option (Bool)
  | 0, _, _, _, _, _, _, _, _, _, _, _, _, _ => none
  | k + 1, x1, x2, x3, x9, x14, x15, x16, x501000, x501001, x501002, x501003, x501004, x501005 => if x16 < (x501005.length : Int) then (if 0 ≤ x16 then (if ((rd_T51 x501005 x16).f0).toList = x1.toList then (if x15 = true then (entailref22_May.l2 k x1 x2 x3 x9 true true (wrap64 (x16 + 1)) x501000 x501001 x501002 x501003 x501004 x501005) else ((entailref22_matches.f k ((rd_T51 x501005 x16).f1) x2).bind fun t513 => (if t513 = true then ((entailref22_matches.f k ((rd_T51 x501005 x16).f2) x3).bind fun t514 => (entailref22_May.l2 k x1 x2 x3 x9 true t514 (wrap64 (x16 + 1)) x501000 x501001 x501002 x501003 x501004 x501005)) else (entailref22_May.l2 k x1 x2 x3 x9 true false (wrap64 (x16 + 1)) x501000 x501001 x501002 x501003 x501004 x501005)))) else (entailref22_May.l2 k x1 x2 x3 x9 x14 x15 (wrap64 (x16 + 1)) x501000 x501001 x501002 x501003 x501004 x501005)) else (none)) else (if x9 = true then (if x14 = true then (some x15) else (some true)) else (some false))
end
def entailref22_May.f (k : Nat) (l0_0 : List ByteArray) (l0_1 : List ByteArray) (l0_2 : List ByteArray) (l0_3 : List (S36)) (l0_4 : List (S34)) (l0_5 : List (S51)) (a1 : ByteArray) (a2 : ByteArray) (a3 : ByteArray) : Option (Bool) := (entailref22_In.f k l0_0 a1).bind fun t501 => (if t501 = true then ((entailref22_In.f k l0_1 a2).bind fun t502 => (if t502 = true then ((entailref22_In.f k l0_2 a3).bind fun t503 => (entailref22_May.j0 k a1 a2 a3 (!t503) l0_0 l0_1 l0_2 l0_3 l0_4 l0_5)) else (entailref22_May.j0 k a1 a2 a3 true l0_0 l0_1 l0_2 l0_3 l0_4 l0_5))) else (entailref22_May.j0 k a1 a2 a3 true l0_0 l0_1 l0_2 l0_3 l0_4 l0_5))
def entailref22_May.T12 : Bool × List (List Nat × List Nat) := (true, [([], []), ([0], [0]), ([1], [1]), ([1], [1]), ([1], [1]), ([4, 1], [1, 4]), ([1], [1]), ([5, 6, 1], [1, 5, 6]), ([7, 1], [1, 7]), ([2, 3, 8, 1, 1], [1, 2, 3, 8]), ([1, 9], [1, 9]), ([10, 9, 0, 1, 2, 3, 4, 5, 6, 7, 8, 9, 10], [0, 10])])
def entailref22_May.B12 : List Nat := [0, 1, 3, 3, 3, 19, 3, 115, 243, 511, 1023, 2047]
theorem entailref22_May.tab12 : rtab .any (opsOf Try.f18 12) = entailref22_May.T12 := by kernel_rfl
theorem entailref22_May.bits12 : waitsOk entailref22_May.T12.2 entailref22_May.B12 = true := by kernel_rfl
set_option maxHeartbeats 8000000 in
set_option maxRecDepth 100000 in
theorem entailref22_May.calls (k : Nat) (A0_0 : Option Addr) (c0_0 : Nat) (l0_0 : List ByteArray) (A0_1 : Option Addr) (c0_1 : Nat) (l0_1 : List ByteArray) (A0_2 : Option Addr) (c0_2 : Nat) (l0_2 : List ByteArray) (A0_3 : Option Addr) (c0_3 : Nat) (l0_3 : List (S36)) (A0_4 : Option Addr) (c0_4 : Nat) (l0_4 : List (S34)) (A0_5 : Option Addr) (c0_5 : Nat) (l0_5 : List (S51)) (a1 : ByteArray) (a2 : ByteArray) (a3 : ByteArray) (r : Bool) (w : World) (hr0_0 : Kd.C Kd.string w A0_0 l0_0.length l0_0) (hc0_0 : l0_0.length ≤ c0_0) (hr0_1 : Kd.C Kd.string w A0_1 l0_1.length l0_1) (hc0_1 : l0_1.length ≤ c0_1) (hr0_2 : Kd.C Kd.string w A0_2 l0_2.length l0_2) (hc0_2 : l0_2.length ≤ c0_2) (hr0_3 : Kd.C k36 w A0_3 l0_3.length l0_3) (hc0_3 : l0_3.length ≤ c0_3) (hr0_4 : Kd.C k34 w A0_4 l0_4.length l0_4) (hc0_4 : l0_4.length ≤ c0_4) (hr0_5 : Kd.C k51 w A0_5 l0_5.length l0_5) (hc0_5 : l0_5.length ≤ c0_5) (h : entailref22_May.f k l0_0 l0_1 l0_2 l0_3 l0_4 l0_5 a1 a2 a3 = some r) :
  Calls Try.prog 18 #[.agg #[.slice A0_0 l0_0.length c0_0, .slice A0_1 l0_1.length c0_1, .slice A0_2 l0_2.length c0_2, .slice A0_3 l0_3.length c0_3, .slice A0_4 l0_4.length c0_4, .slice A0_5 l0_5.length c0_5], .string a1, .string a2, .string a3] w fun e w' => e = .returned (.bool r) ∧ Below w.heap.size w w' := by
 have hu28 := Try.underlying28
 have hu34 := Try.underlying34
 have hu51 := Try.underlying51
 have HR0_0 := Aside0.mk hr0_0
 have HC0_0 := Aside0.mk hc0_0
 clear hr0_0 hc0_0
 have HR0_1 := Aside0.mk hr0_1
 have HC0_1 := Aside0.mk hc0_1
 clear hr0_1 hc0_1
 have HR0_2 := Aside0.mk hr0_2
 have HC0_2 := Aside0.mk hc0_2
 clear hr0_2 hc0_2
 have HR0_3 := Aside0.mk hr0_3
 have HC0_3 := Aside0.mk hc0_3
 clear hr0_3 hc0_3
 have HR0_4 := Aside0.mk hr0_4
 have HC0_4 := Aside0.mk hc0_4
 clear hr0_4 hc0_4
 have HR0_5 := Aside0.mk hr0_5
 have HC0_5 := Aside0.mk hc0_5
 clear hr0_5 hc0_5
 have HB := Aside0.mk (Below.refl w.heap.size w)
 have H : ((entailref22_In.f k l0_0 a1).bind fun t501 => (if t501 = true then ((entailref22_In.f k l0_1 a2).bind fun t502 => (if t502 = true then ((entailref22_In.f k l0_2 a3).bind fun t503 => (entailref22_May.j0 k a1 a2 a3 (!t503) l0_0 l0_1 l0_2 l0_3 l0_4 l0_5)) else (entailref22_May.j0 k a1 a2 a3 true l0_0 l0_1 l0_2 l0_3 l0_4 l0_5))) else (entailref22_May.j0 k a1 a2 a3 true l0_0 l0_1 l0_2 l0_3 l0_4 l0_5))) = some r := h
 clear h
 have HC5 := Aside0.mk H
 clear H
 go_enter Try.func18, Try.ntmps18
 go_upto_region 1 with (first | ((with_reducible refine gate_dst (N := 4) rfl ?_); refine box_event ?hg (N := 4) ?hd (cs := #[.slice A0_0 l0_0.length c0_0, .slice A0_1 l0_1.length c0_1, .slice A0_2 l0_2.length c0_2, .slice A0_3 l0_3.length c0_3, .slice A0_4 l0_4.length c0_4, .slice A0_5 l0_5.length c0_5]) (t := 28) ?hr ?_; (case hd => rfl); (case hg => rfl); (case hr => first | (go_simp; done) | (go_simp; rfl)); intro gb500 hg w6 hbox hb; have BK500 := Aside0.mk (hbox); have GW500 := Aside0.mk ((by rw [hg]; exact (below_size (lb HB.out)) : w.heap.size ≤ gb500)); have GE500 := Aside0.mk ((by rw [hg]; exact (below_size (lb HB.out)) : w.heap.size ≤ gb500)); replace HB := Aside0.mk (below_step (lb HB.out) hb); clear hb hbox hg))
 (try simp only [Act.put, List.setIfInBounds_toArray, List.set_cons_zero, List.set_cons_succ])
 go_cut [36] (fun v36 wc => ∃ (kq : Nat) (x36_4 : Bool), v36 = .bool x36_4 ∧ Aside0 (entailref22_May.j0 kq a1 a2 a3 x36_4 l0_0 l0_1 l0_2 l0_3 l0_4 l0_5 = some r) ∧ Aside0 (kq ≤ k) ∧ Aside0 (wc.heap[gb500]? = some (.cells #[(.slice A0_0 l0_0.length c0_0), (.slice A0_1 l0_1.length c0_1), (.slice A0_2 l0_2.length c0_2), (.slice A0_3 l0_3.length c0_3), (.slice A0_4 l0_4.length c0_4), (.slice A0_5 l0_5.length c0_5)] 28 (0, 0))) ∧ Aside0 (Below w.heap.size w wc))
 case first =>
  have H := HC5.out
  clear HC5
  replace H := Option.bind_eq_some_iff.mp H
  obtain ⟨t501, A70, H⟩ := H
  have A7 := Aside0.mk A70
  clear A70
  by_cases c8 : t501 = true
  rotate_left
  ·replace c8 := Bool.eq_false_iff.mpr c8
   subst c8
   have H1 : (entailref22_May.j0 k a1 a2 a3 true l0_0 l0_1 l0_2 l0_3 l0_4 l0_5) = some r := by rw [if_neg (show ¬ (false = true) by decide)] at H; exact H
   clear H
   have H := H1
   clear H1
   have H' := Aside0.mk H
   clear H
   have hcz14_0 : w6.cell? ⟨gb500, 0, none⟩ = some (.slice A0_0 l0_0.length c0_0) := (blk_cell BK500.out 0).trans rfl
   have hcz14_1 : w6.cell? ⟨gb500, 1, none⟩ = some (.slice A0_1 l0_1.length c0_1) := (blk_cell BK500.out 1).trans rfl
   have hcz14_2 : w6.cell? ⟨gb500, 2, none⟩ = some (.slice A0_2 l0_2.length c0_2) := (blk_cell BK500.out 2).trans rfl
   have hcz14_3 : w6.cell? ⟨gb500, 3, none⟩ = some (.slice A0_3 l0_3.length c0_3) := (blk_cell BK500.out 3).trans rfl
   have hcz14_4 : w6.cell? ⟨gb500, 4, none⟩ = some (.slice A0_4 l0_4.length c0_4) := (blk_cell BK500.out 4).trans rfl
   have hcz14_5 : w6.cell? ⟨gb500, 5, none⟩ = some (.slice A0_5 l0_5.length c0_5) := (blk_cell BK500.out 5).trans rfl
   have hfz14_0 := blk_frozen BK500.out 0
   have hfz14_1 := blk_frozen BK500.out 1
   have hfz14_2 := blk_frozen BK500.out 2
   have hfz14_3 := blk_frozen BK500.out 3
   have hfz14_4 := blk_frozen BK500.out 4
   have hfz14_5 := blk_frozen BK500.out 5
   go_wp2_with (first | ((with_reducible refine gate_callee (f := 34) rfl ?_); refine goesL_ (some 21) rfl rfl Try.func34 (by kernel_rfl) rfl #[.slice A0_0 l0_0.length c0_0, .string a1] rfl (by (try simp only [List.map_toArray, List.map_cons, List.map_nil]); first | done | rfl | (simp only [List.length_drop, List.length_take]; rfl)) ?_; (with_reducible refine (entailref22_In.calls k _ _ l0_0 a1 false _ ?side1 ?side2 A7.out).mono ?_); (case side1 => exact lC (Kd.C_below HR0_0.out HB.out)); (case side2 => exact HC0_0.out); rintro e w' ⟨rfl, ⟨nd, rfl⟩⟩; refine ⟨_, rfl, ?_⟩))
   go_meet
   case rel => exact ⟨_, (true), (by first | rfl | (simp; done) | (simp [*]; done)), H', ⟨by first | omega | exact Nat.le_refl _⟩, ⟨by (with_reducible repeat (first | refine blk_drewN ?_ _ | refine blk_drew ?_ | refine blk_alloc ?_ _)); exact BK500.out⟩, ⟨lb1 HB.out GE500.out⟩⟩
  subst c8
  have H1 : ((entailref22_In.f k l0_1 a2).bind fun t502 => (if t502 = true then ((entailref22_In.f k l0_2 a3).bind fun t503 => (entailref22_May.j0 k a1 a2 a3 (!t503) l0_0 l0_1 l0_2 l0_3 l0_4 l0_5)) else (entailref22_May.j0 k a1 a2 a3 true l0_0 l0_1 l0_2 l0_3 l0_4 l0_5))) = some r := by rw [if_pos rfl] at H; exact H
  clear H
  have H := H1
  clear H1
  replace H := Option.bind_eq_some_iff.mp H
  obtain ⟨t502, A90, H⟩ := H
  have A9 := Aside0.mk A90
  clear A90
  by_cases c10 : t502 = true
  rotate_left
  ·replace c10 := Bool.eq_false_iff.mpr c10
   subst c10
   have H1 : (entailref22_May.j0 k a1 a2 a3 true l0_0 l0_1 l0_2 l0_3 l0_4 l0_5) = some r := by rw [if_neg (show ¬ (false = true) by decide)] at H; exact H
   clear H
   have H := H1
   clear H1
   have H' := Aside0.mk H
   clear H
   have hcz13_0 : w6.cell? ⟨gb500, 0, none⟩ = some (.slice A0_0 l0_0.length c0_0) := (blk_cell BK500.out 0).trans rfl
   have hcz13_1 : w6.cell? ⟨gb500, 1, none⟩ = some (.slice A0_1 l0_1.length c0_1) := (blk_cell BK500.out 1).trans rfl
   have hcz13_2 : w6.cell? ⟨gb500, 2, none⟩ = some (.slice A0_2 l0_2.length c0_2) := (blk_cell BK500.out 2).trans rfl
   have hcz13_3 : w6.cell? ⟨gb500, 3, none⟩ = some (.slice A0_3 l0_3.length c0_3) := (blk_cell BK500.out 3).trans rfl
   have hcz13_4 : w6.cell? ⟨gb500, 4, none⟩ = some (.slice A0_4 l0_4.length c0_4) := (blk_cell BK500.out 4).trans rfl
   have hcz13_5 : w6.cell? ⟨gb500, 5, none⟩ = some (.slice A0_5 l0_5.length c0_5) := (blk_cell BK500.out 5).trans rfl
   have hfz13_0 := blk_frozen BK500.out 0
   have hfz13_1 := blk_frozen BK500.out 1
   have hfz13_2 := blk_frozen BK500.out 2
   have hfz13_3 := blk_frozen BK500.out 3
   have hfz13_4 := blk_frozen BK500.out 4
   have hfz13_5 := blk_frozen BK500.out 5
   go_wp2_with (first | ((with_reducible refine gate_callee (f := 34) rfl ?_); refine goesL_ (some 21) rfl rfl Try.func34 (by kernel_rfl) rfl #[.slice A0_0 l0_0.length c0_0, .string a1] rfl (by (try simp only [List.map_toArray, List.map_cons, List.map_nil]); first | done | rfl | (simp only [List.length_drop, List.length_take]; rfl)) ?_; (with_reducible refine (entailref22_In.calls k _ _ l0_0 a1 true _ ?side1 ?side2 A7.out).mono ?_); (case side1 => exact lC (Kd.C_below HR0_0.out HB.out)); (case side2 => exact HC0_0.out); rintro e w' ⟨rfl, ⟨nd, rfl⟩⟩; refine ⟨_, rfl, ?_⟩) | (go_at_call 34; (with_reducible refine (entailref22_In.calls k _ _ l0_1 a2 false _ ?side1 ?side2 A9.out).mono ?_); (case side1 => exact lC (Kd.C_below HR0_1.out (lb1 HB.out GE500.out))); (case side2 => exact HC0_1.out); rintro e w' ⟨rfl, ⟨nd, rfl⟩⟩))
   go_meet
   case rel => exact ⟨_, (true), (by first | rfl | (simp; done) | (simp [*]; done)), H', ⟨by first | omega | exact Nat.le_refl _⟩, ⟨by (with_reducible repeat (first | refine blk_drewN ?_ _ | refine blk_drew ?_ | refine blk_alloc ?_ _)); exact BK500.out⟩, ⟨lb1 HB.out GE500.out⟩⟩
  subst c10
  have H1 : ((entailref22_In.f k l0_2 a3).bind fun t503 => (entailref22_May.j0 k a1 a2 a3 (!t503) l0_0 l0_1 l0_2 l0_3 l0_4 l0_5)) = some r := by rw [if_pos rfl] at H; exact H
  clear H
  have H := H1
  clear H1
  replace H := Option.bind_eq_some_iff.mp H
  obtain ⟨t503, A110, H⟩ := H
  have A11 := Aside0.mk A110
  clear A110
  have H' := Aside0.mk H
  clear H
  have hcz12_0 : w6.cell? ⟨gb500, 0, none⟩ = some (.slice A0_0 l0_0.length c0_0) := (blk_cell BK500.out 0).trans rfl
  have hcz12_1 : w6.cell? ⟨gb500, 1, none⟩ = some (.slice A0_1 l0_1.length c0_1) := (blk_cell BK500.out 1).trans rfl
  have hcz12_2 : w6.cell? ⟨gb500, 2, none⟩ = some (.slice A0_2 l0_2.length c0_2) := (blk_cell BK500.out 2).trans rfl
  have hcz12_3 : w6.cell? ⟨gb500, 3, none⟩ = some (.slice A0_3 l0_3.length c0_3) := (blk_cell BK500.out 3).trans rfl
  have hcz12_4 : w6.cell? ⟨gb500, 4, none⟩ = some (.slice A0_4 l0_4.length c0_4) := (blk_cell BK500.out 4).trans rfl
  have hcz12_5 : w6.cell? ⟨gb500, 5, none⟩ = some (.slice A0_5 l0_5.length c0_5) := (blk_cell BK500.out 5).trans rfl
  have hfz12_0 := blk_frozen BK500.out 0
  have hfz12_1 := blk_frozen BK500.out 1
  have hfz12_2 := blk_frozen BK500.out 2
  have hfz12_3 := blk_frozen BK500.out 3
  have hfz12_4 := blk_frozen BK500.out 4
  have hfz12_5 := blk_frozen BK500.out 5
  go_wp2_with (first | ((with_reducible refine gate_callee (f := 34) rfl ?_); refine goesL_ (some 21) rfl rfl Try.func34 (by kernel_rfl) rfl #[.slice A0_0 l0_0.length c0_0, .string a1] rfl (by (try simp only [List.map_toArray, List.map_cons, List.map_nil]); first | done | rfl | (simp only [List.length_drop, List.length_take]; rfl)) ?_; (with_reducible refine (entailref22_In.calls k _ _ l0_0 a1 true _ ?side1 ?side2 A7.out).mono ?_); (case side1 => exact lC (Kd.C_below HR0_0.out HB.out)); (case side2 => exact HC0_0.out); rintro e w' ⟨rfl, ⟨nd, rfl⟩⟩; refine ⟨_, rfl, ?_⟩) | (go_at_call 34; (with_reducible refine (entailref22_In.calls k _ _ l0_1 a2 true _ ?side1 ?side2 A9.out).mono ?_); (case side1 => exact lC (Kd.C_below HR0_1.out (lb1 HB.out GE500.out))); (case side2 => exact HC0_1.out); rintro e w' ⟨rfl, ⟨nd, rfl⟩⟩) | (go_at_call 34; (with_reducible refine (entailref22_In.calls k _ _ l0_2 a3 t503 _ ?side1 ?side2 A11.out).mono ?_); (case side1 => exact lC (Kd.C_below HR0_2.out (lb1 HB.out GE500.out))); (case side2 => exact HC0_2.out); rintro e w' ⟨rfl, ⟨nd, rfl⟩⟩))
  go_meet
  case rel => exact ⟨_, (!t503), (by first | rfl | (simp; done) | (simp [*]; done)), H', ⟨by first | omega | exact Nat.le_refl _⟩, ⟨by (with_reducible repeat (first | refine blk_drewN ?_ _ | refine blk_drew ?_ | refine blk_alloc ?_ _)); exact BK500.out⟩, ⟨lb1 HB.out GE500.out⟩⟩
 case rest =>
  clear HC5
  try clear c1
  try clear p2
  try clear c3
  try clear c8
  try clear c10
  try clear hcz12_0
  try clear hcz12_1
  try clear hcz12_2
  try clear hcz12_3
  try clear hcz12_4
  try clear hcz12_5
  try clear hcz13_0
  try clear hcz13_1
  try clear hcz13_2
  try clear hcz13_3
  try clear hcz13_4
  try clear hcz13_5
  try clear hcz14_0
  try clear hcz14_1
  try clear hcz14_2
  try clear hcz14_3
  try clear hcz14_4
  try clear hcz14_5
  try clear hfz12_0
  try clear hfz12_1
  try clear hfz12_2
  try clear hfz12_3
  try clear hfz12_4
  try clear hfz12_5
  try clear hfz13_0
  try clear hfz13_1
  try clear hfz13_2
  try clear hfz13_3
  try clear hfz13_4
  try clear hfz13_5
  try clear hfz14_0
  try clear hfz14_1
  try clear hfz14_2
  try clear hfz14_3
  try clear hfz14_4
  try clear hfz14_5
  obtain ⟨kq, x36_4, rfl, HA, HJ4, BK500, HB⟩ := hcut
  cases kq with
  | zero => exact absurd HA.out (by simp [entailref22_May.j0])
  | succ kj4 =>
   have H := HA.out
   clear HA
   simp only [entailref22_May.j0] at H
   by_cases c15 : x36_4 = true
   ·subst c15
    have H1 : (some false) = some r := by rw [if_pos rfl] at H; exact H
    clear H
    have H := H1
    clear H1
    obtain rfl := Option.some.inj H
    go_wp2
    go_ret
    exact ⟨by first | rfl | (simp [errW_none, errW_some] <;> rfl) | (simp [*, errW_none, errW_some] <;> rfl), lb1 HB.out GE500.out⟩
   replace c15 := Bool.eq_false_iff.mpr c15
   subst c15
   have H1 : (entailref22_May.l0 kj4 a1 a2 a3 false 0 l0_0 l0_1 l0_2 l0_3 l0_4 l0_5) = some r := by rw [if_neg (show ¬ (false = true) by decide)] at H; exact H
   clear H
   have H := H1
   clear H1
   have H' := Aside0.mk H
   clear H
   go_wp2
   go_loopg [9, 10] kj4 (fun kq v9 v10 w' => ∃ (x9_2 : Bool) (x10_2 : Int), v9 = .bool x9_2 ∧ v10 = .int .i64 x10_2 ∧ Aside0 (entailref22_May.l0 kq a1 a2 a3 x9_2 x10_2 l0_0 l0_1 l0_2 l0_3 l0_4 l0_5 = some r) ∧ Aside0 (kq ≤ kj4) ∧ Aside0 (w'.heap[gb500]? = some (.cells #[(.slice A0_0 l0_0.length c0_0), (.slice A0_1 l0_1.length c0_1), (.slice A0_2 l0_2.length c0_2), (.slice A0_3 l0_3.length c0_3), (.slice A0_4 l0_4.length c0_4), (.slice A0_5 l0_5.length c0_5)] 28 (0, 0))) ∧ Aside0 (Below w.heap.size w w'))
   case atStart => exact ⟨(false), (0), (by first | rfl | (simp; done) | (simp [*]; done)), (by first | rfl | (simp; done) | (simp [*]; done)), H', ⟨Nat.le_refl _⟩, ⟨by (with_reducible repeat (first | refine blk_drewN ?_ _ | refine blk_drew ?_ | refine blk_alloc ?_ _)); exact BK500.out⟩, ⟨lb1 HB.out GE500.out⟩⟩
   case round =>
    clear H'
    try clear c1
    try clear p2
    try clear c3
    try clear c8
    try clear c10
    try clear c15
    try clear hcz12_0
    try clear hcz12_1
    try clear hcz12_2
    try clear hcz12_3
    try clear hcz12_4
    try clear hcz12_5
    try clear hcz13_0
    try clear hcz13_1
    try clear hcz13_2
    try clear hcz13_3
    try clear hcz13_4
    try clear hcz13_5
    try clear hcz14_0
    try clear hcz14_1
    try clear hcz14_2
    try clear hcz14_3
    try clear hcz14_4
    try clear hcz14_5
    try clear hfz12_0
    try clear hfz12_1
    try clear hfz12_2
    try clear hfz12_3
    try clear hfz12_4
    try clear hfz12_5
    try clear hfz13_0
    try clear hfz13_1
    try clear hfz13_2
    try clear hfz13_3
    try clear hfz13_4
    try clear hfz13_5
    try clear hfz14_0
    try clear hfz14_1
    try clear hfz14_2
    try clear hfz14_3
    try clear hfz14_4
    try clear hfz14_5
    try clear p2
    obtain ⟨x9_2, x10_2, rfl, rfl, HA, HK2, BK500, HB⟩ := hrel
    cases gk with
    | zero => exact absurd HA.out (by simp [entailref22_May.l0])
    | succ k2 =>
     have H := HA.out
     clear HA
     simp only [entailref22_May.l0] at H
     by_cases c16 : x10_2 < (l0_4.length : Int)
     rotate_left
     ·rw [if_neg c16] at H
      have c16b0 : decide (x10_2 < (l0_4.length : Int)) = false := decide_eq_false c16
      clear c16
      have H' := Aside0.mk H
      clear H
      have hcz51_0 : wr.cell? ⟨gb500, 0, none⟩ = some (.slice A0_0 l0_0.length c0_0) := (blk_cell BK500.out 0).trans rfl
      have hcz51_1 : wr.cell? ⟨gb500, 1, none⟩ = some (.slice A0_1 l0_1.length c0_1) := (blk_cell BK500.out 1).trans rfl
      have hcz51_2 : wr.cell? ⟨gb500, 2, none⟩ = some (.slice A0_2 l0_2.length c0_2) := (blk_cell BK500.out 2).trans rfl
      have hcz51_3 : wr.cell? ⟨gb500, 3, none⟩ = some (.slice A0_3 l0_3.length c0_3) := (blk_cell BK500.out 3).trans rfl
      have hcz51_4 : wr.cell? ⟨gb500, 4, none⟩ = some (.slice A0_4 l0_4.length c0_4) := (blk_cell BK500.out 4).trans rfl
      have hcz51_5 : wr.cell? ⟨gb500, 5, none⟩ = some (.slice A0_5 l0_5.length c0_5) := (blk_cell BK500.out 5).trans rfl
      have hfz51_0 := blk_frozen BK500.out 0
      have hfz51_1 := blk_frozen BK500.out 1
      have hfz51_2 := blk_frozen BK500.out 2
      have hfz51_3 := blk_frozen BK500.out 3
      have hfz51_4 := blk_frozen BK500.out 4
      have hfz51_5 := blk_frozen BK500.out 5
      go_wp2
      go_loopg [14, 15, 16] k2 (fun kq v14 v15 v16 w' => ∃ (x14_3 : Bool) (x15_3 : Bool) (x16_3 : Int), v14 = .bool x14_3 ∧ v15 = .bool x15_3 ∧ v16 = .int .i64 x16_3 ∧ Aside0 (entailref22_May.l2 kq a1 a2 a3 x9_2 x14_3 x15_3 x16_3 l0_0 l0_1 l0_2 l0_3 l0_4 l0_5 = some r) ∧ Aside0 (kq ≤ k2) ∧ Aside0 (w'.heap[gb500]? = some (.cells #[(.slice A0_0 l0_0.length c0_0), (.slice A0_1 l0_1.length c0_1), (.slice A0_2 l0_2.length c0_2), (.slice A0_3 l0_3.length c0_3), (.slice A0_4 l0_4.length c0_4), (.slice A0_5 l0_5.length c0_5)] 28 (0, 0))) ∧ Aside0 (Below w.heap.size w w'))
      case atStart => exact ⟨(false), (false), (0), (by first | rfl | (simp; done) | (simp [*]; done)), (by first | rfl | (simp; done) | (simp [*]; done)), (by first | rfl | (simp; done) | (simp [*]; done)), H', ⟨Nat.le_refl _⟩, ⟨by (with_reducible repeat (first | refine blk_drewN ?_ _ | refine blk_drew ?_ | refine blk_alloc ?_ _)); exact BK500.out⟩, ⟨lb1 HB.out GE500.out⟩⟩
      case round =>
       clear H'
       try clear c1
       try clear c2
       try clear p2
       try clear c3
       try clear c4
       try clear c5
       try clear p5
       try clear q5
       try clear hx5
       try clear p6
       try clear c8
       try clear c10
       try clear c15
       try clear c16
       try clear c16b0
       try clear c17
       try clear c17b0
       try clear c18
       try clear c19
       try clear c21
       try clear c23
       try clear c23b0
       try clear c24
       try clear c25
       try clear c28
       try clear c28b0
       try clear c30
       try clear c34
       try clear c35
       try clear c37
       try clear c39
       try clear c41
       try clear c43
       try clear c45
       try clear c46
       try clear c46b0
       try clear c47
       try clear c49
       try clear c50
       try clear p50
       try clear q50
       try clear hx50
       try clear hcz12_0
       try clear hcz12_1
       try clear hcz12_2
       try clear hcz12_3
       try clear hcz12_4
       try clear hcz12_5
       try clear hcz13_0
       try clear hcz13_1
       try clear hcz13_2
       try clear hcz13_3
       try clear hcz13_4
       try clear hcz13_5
       try clear hcz14_0
       try clear hcz14_1
       try clear hcz14_2
       try clear hcz14_3
       try clear hcz14_4
       try clear hcz14_5
       try clear hcz19_0
       try clear hcz19_1
       try clear hcz19_2
       try clear hcz19_3
       try clear hcz19_4
       try clear hcz19_5
       try clear hcz22_0
       try clear hcz22_1
       try clear hcz22_2
       try clear hcz22_3
       try clear hcz22_4
       try clear hcz22_5
       try clear hcz26_0
       try clear hcz26_1
       try clear hcz26_2
       try clear hcz26_3
       try clear hcz26_4
       try clear hcz26_5
       try clear hcz31_0
       try clear hcz31_1
       try clear hcz31_2
       try clear hcz31_3
       try clear hcz31_4
       try clear hcz31_5
       try clear hcz36_0
       try clear hcz36_1
       try clear hcz36_2
       try clear hcz36_3
       try clear hcz36_4
       try clear hcz36_5
       try clear hcz42_0
       try clear hcz42_1
       try clear hcz42_2
       try clear hcz42_3
       try clear hcz42_4
       try clear hcz42_5
       try clear hcz44_0
       try clear hcz44_1
       try clear hcz44_2
       try clear hcz44_3
       try clear hcz44_4
       try clear hcz44_5
       try clear hcz48_0
       try clear hcz48_1
       try clear hcz48_2
       try clear hcz48_3
       try clear hcz48_4
       try clear hcz48_5
       try clear hcz50_0
       try clear hcz50_1
       try clear hcz50_2
       try clear hcz50_3
       try clear hcz50_4
       try clear hcz50_5
       try clear hcz51_0
       try clear hcz51_1
       try clear hcz51_2
       try clear hcz51_3
       try clear hcz51_4
       try clear hcz51_5
       try clear hfz12_0
       try clear hfz12_1
       try clear hfz12_2
       try clear hfz12_3
       try clear hfz12_4
       try clear hfz12_5
       try clear hfz13_0
       try clear hfz13_1
       try clear hfz13_2
       try clear hfz13_3
       try clear hfz13_4
       try clear hfz13_5
       try clear hfz14_0
       try clear hfz14_1
       try clear hfz14_2
       try clear hfz14_3
       try clear hfz14_4
       try clear hfz14_5
       try clear hfz19_0
       try clear hfz19_1
       try clear hfz19_2
       try clear hfz19_3
       try clear hfz19_4
       try clear hfz19_5
       try clear hfz22_0
       try clear hfz22_1
       try clear hfz22_2
       try clear hfz22_3
       try clear hfz22_4
       try clear hfz22_5
       try clear hfz26_0
       try clear hfz26_1
       try clear hfz26_2
       try clear hfz26_3
       try clear hfz26_4
       try clear hfz26_5
       try clear hfz31_0
       try clear hfz31_1
       try clear hfz31_2
       try clear hfz31_3
       try clear hfz31_4
       try clear hfz31_5
       try clear hfz36_0
       try clear hfz36_1
       try clear hfz36_2
       try clear hfz36_3
       try clear hfz36_4
       try clear hfz36_5
       try clear hfz42_0
       try clear hfz42_1
       try clear hfz42_2
       try clear hfz42_3
       try clear hfz42_4
       try clear hfz42_5
       try clear hfz44_0
       try clear hfz44_1
       try clear hfz44_2
       try clear hfz44_3
       try clear hfz44_4
       try clear hfz44_5
       try clear hfz48_0
       try clear hfz48_1
       try clear hfz48_2
       try clear hfz48_3
       try clear hfz48_4
       try clear hfz48_5
       try clear hfz50_0
       try clear hfz50_1
       try clear hfz50_2
       try clear hfz50_3
       try clear hfz50_4
       try clear hfz50_5
       try clear hfz51_0
       try clear hfz51_1
       try clear hfz51_2
       try clear hfz51_3
       try clear hfz51_4
       try clear hfz51_5
       try clear hx504_0
       try clear hx504_1
       try clear hx504_2
       try clear hx504_3
       try clear hx504_4
       try clear hx504_5
       try clear hx507_0
       try clear p2
       try clear p5
       try clear p504
       try clear p507
       try clear p6
       try clear q5
       try clear q504
       try clear q507
       obtain ⟨x14_3, x15_3, x16_3, rfl, rfl, rfl, HA, HK3, BK500, HB⟩ := hrel
       cases gk with
       | zero => exact absurd HA.out (by simp [entailref22_May.l2])
       | succ k3 =>
        have H := HA.out
        clear HA
        simp only [entailref22_May.l2] at H
        by_cases c52 : x16_3 < (l0_5.length : Int)
        rotate_left
        ·rw [if_neg c52] at H
         have c52b0 : decide (x16_3 < (l0_5.length : Int)) = false := decide_eq_false c52
         clear c52
         by_cases c75 : x9_2 = true
         rotate_left
         ·replace c75 := Bool.eq_false_iff.mpr c75
          subst c75
          have H1 : (some false) = some r := by rw [if_neg (show ¬ (false = true) by decide)] at H; exact H
          clear H
          have H := H1
          clear H1
          obtain rfl := Option.some.inj H
          have hcz79_0 : wr.cell? ⟨gb500, 0, none⟩ = some (.slice A0_0 l0_0.length c0_0) := (blk_cell BK500.out 0).trans rfl
          have hcz79_1 : wr.cell? ⟨gb500, 1, none⟩ = some (.slice A0_1 l0_1.length c0_1) := (blk_cell BK500.out 1).trans rfl
          have hcz79_2 : wr.cell? ⟨gb500, 2, none⟩ = some (.slice A0_2 l0_2.length c0_2) := (blk_cell BK500.out 2).trans rfl
          have hcz79_3 : wr.cell? ⟨gb500, 3, none⟩ = some (.slice A0_3 l0_3.length c0_3) := (blk_cell BK500.out 3).trans rfl
          have hcz79_4 : wr.cell? ⟨gb500, 4, none⟩ = some (.slice A0_4 l0_4.length c0_4) := (blk_cell BK500.out 4).trans rfl
          have hcz79_5 : wr.cell? ⟨gb500, 5, none⟩ = some (.slice A0_5 l0_5.length c0_5) := (blk_cell BK500.out 5).trans rfl
          have hfz79_0 := blk_frozen BK500.out 0
          have hfz79_1 := blk_frozen BK500.out 1
          have hfz79_2 := blk_frozen BK500.out 2
          have hfz79_3 := blk_frozen BK500.out 3
          have hfz79_4 := blk_frozen BK500.out 4
          have hfz79_5 := blk_frozen BK500.out 5
          go_wp2
          go_ret
          exact ⟨by first | rfl | (simp [errW_none, errW_some] <;> rfl) | (simp [*, errW_none, errW_some] <;> rfl), lb1 HB.out GE500.out⟩
         subst c75
         have H1 : (if x14_3 = true then (some x15_3) else (some true)) = some r := by rw [if_pos rfl] at H; exact H
         clear H
         have H := H1
         clear H1
         by_cases c76 : x14_3 = true
         ·subst c76
          have H1 : (some x15_3) = some r := by rw [if_pos rfl] at H; exact H
          clear H
          have H := H1
          clear H1
          obtain rfl := Option.some.inj H
          have hcz77_0 : wr.cell? ⟨gb500, 0, none⟩ = some (.slice A0_0 l0_0.length c0_0) := (blk_cell BK500.out 0).trans rfl
          have hcz77_1 : wr.cell? ⟨gb500, 1, none⟩ = some (.slice A0_1 l0_1.length c0_1) := (blk_cell BK500.out 1).trans rfl
          have hcz77_2 : wr.cell? ⟨gb500, 2, none⟩ = some (.slice A0_2 l0_2.length c0_2) := (blk_cell BK500.out 2).trans rfl
          have hcz77_3 : wr.cell? ⟨gb500, 3, none⟩ = some (.slice A0_3 l0_3.length c0_3) := (blk_cell BK500.out 3).trans rfl
          have hcz77_4 : wr.cell? ⟨gb500, 4, none⟩ = some (.slice A0_4 l0_4.length c0_4) := (blk_cell BK500.out 4).trans rfl
          have hcz77_5 : wr.cell? ⟨gb500, 5, none⟩ = some (.slice A0_5 l0_5.length c0_5) := (blk_cell BK500.out 5).trans rfl
          have hfz77_0 := blk_frozen BK500.out 0
          have hfz77_1 := blk_frozen BK500.out 1
          have hfz77_2 := blk_frozen BK500.out 2
          have hfz77_3 := blk_frozen BK500.out 3
          have hfz77_4 := blk_frozen BK500.out 4
          have hfz77_5 := blk_frozen BK500.out 5
          go_wp2
          go_ret
          exact ⟨by first | rfl | (simp [errW_none, errW_some] <;> rfl) | (simp [*, errW_none, errW_some] <;> rfl), lb1 HB.out GE500.out⟩
         replace c76 := Bool.eq_false_iff.mpr c76
         subst c76
         have H1 : (some true) = some r := by rw [if_neg (show ¬ (false = true) by decide)] at H; exact H
         clear H
         have H := H1
         clear H1
         obtain rfl := Option.some.inj H
         have hcz78_0 : wr.cell? ⟨gb500, 0, none⟩ = some (.slice A0_0 l0_0.length c0_0) := (blk_cell BK500.out 0).trans rfl
         have hcz78_1 : wr.cell? ⟨gb500, 1, none⟩ = some (.slice A0_1 l0_1.length c0_1) := (blk_cell BK500.out 1).trans rfl
         have hcz78_2 : wr.cell? ⟨gb500, 2, none⟩ = some (.slice A0_2 l0_2.length c0_2) := (blk_cell BK500.out 2).trans rfl
         have hcz78_3 : wr.cell? ⟨gb500, 3, none⟩ = some (.slice A0_3 l0_3.length c0_3) := (blk_cell BK500.out 3).trans rfl
         have hcz78_4 : wr.cell? ⟨gb500, 4, none⟩ = some (.slice A0_4 l0_4.length c0_4) := (blk_cell BK500.out 4).trans rfl
         have hcz78_5 : wr.cell? ⟨gb500, 5, none⟩ = some (.slice A0_5 l0_5.length c0_5) := (blk_cell BK500.out 5).trans rfl
         have hfz78_0 := blk_frozen BK500.out 0
         have hfz78_1 := blk_frozen BK500.out 1
         have hfz78_2 := blk_frozen BK500.out 2
         have hfz78_3 := blk_frozen BK500.out 3
         have hfz78_4 := blk_frozen BK500.out 4
         have hfz78_5 := blk_frozen BK500.out 5
         go_wp2
         go_ret
         exact ⟨by first | rfl | (simp [errW_none, errW_some] <;> rfl) | (simp [*, errW_none, errW_some] <;> rfl), lb1 HB.out GE500.out⟩
        rw [if_pos c52] at H
        have c52b0 : decide (x16_3 < (l0_5.length : Int)) = true := decide_eq_true c52
        clear c52
        by_cases c53 : 0 ≤ x16_3
        rotate_left
        ·rw [if_neg c53] at H
         exact absurd H (by simp)
        rw [if_pos c53] at H
        have c53b0 : decide (0 ≤ x16_3) = true := decide_eq_true c53
        clear c53
        by_cases c54 : ((rd_T51 l0_5 x16_3).f0).toList = a1.toList
        rotate_left
        ·rw [if_neg c54] at H
         have c54b0 : (((rd_T51 l0_5 x16_3).f0).toList == a1.toList) = false := beq_eq_false_iff_ne.mpr c54
         have c54b1 : (((rd_T51 l0_5 x16_3).f0).toList != a1.toList) = true := bne_iff_ne.mpr c54
         have H' := Aside0.mk H
         clear H
         have hcz71_0 : wr.cell? ⟨gb500, 0, none⟩ = some (.slice A0_0 l0_0.length c0_0) := (blk_cell BK500.out 0).trans rfl
         have hcz71_1 : wr.cell? ⟨gb500, 1, none⟩ = some (.slice A0_1 l0_1.length c0_1) := (blk_cell BK500.out 1).trans rfl
         have hcz71_2 : wr.cell? ⟨gb500, 2, none⟩ = some (.slice A0_2 l0_2.length c0_2) := (blk_cell BK500.out 2).trans rfl
         have hcz71_3 : wr.cell? ⟨gb500, 3, none⟩ = some (.slice A0_3 l0_3.length c0_3) := (blk_cell BK500.out 3).trans rfl
         have hcz71_4 : wr.cell? ⟨gb500, 4, none⟩ = some (.slice A0_4 l0_4.length c0_4) := (blk_cell BK500.out 4).trans rfl
         have hcz71_5 : wr.cell? ⟨gb500, 5, none⟩ = some (.slice A0_5 l0_5.length c0_5) := (blk_cell BK500.out 5).trans rfl
         have hfz71_0 := blk_frozen BK500.out 0
         have hfz71_1 := blk_frozen BK500.out 1
         have hfz71_2 := blk_frozen BK500.out 2
         have hfz71_3 := blk_frozen BK500.out 3
         have hfz71_4 := blk_frozen BK500.out 4
         have hfz71_5 := blk_frozen BK500.out 5
         have p511 : 0 ≤ (x16_3 : Int) := of_decide_eq_true (by first | (with_reducible assumption) | assumption)
         have q511 : x16_3 < (l0_5.length : Int) := of_decide_eq_true (by first | (with_reducible assumption) | assumption)
         obtain ⟨ad511, A511_1, c511_1, A511_2, c511_2, e511, hx511_0, hx511_1, hx511_2, hl511_1, hi511_1, hl511_2, hi511_2⟩ := at_T51 HR0_5.out x16_3 p511 q511
         cases e511
         replace hx511_0 := (HB.out.cell (World.block_lt_of_cell? w _ hx511_0)).trans hx511_0
         replace hx511_1 := (HB.out.cell (World.block_lt_of_cell? w _ hx511_1)).trans hx511_1
         replace hx511_2 := (HB.out.cell (World.block_lt_of_cell? w _ hx511_2)).trans hx511_2
         have HR511_1 := Aside0.mk hi511_1
         have HC511_1 := Aside0.mk hl511_1
         clear hi511_1 hl511_1
         have HR511_2 := Aside0.mk hi511_2
         have HC511_2 := Aside0.mk hl511_2
         clear hi511_2 hl511_2
         replace p511 := eq_true p511
         replace q511 := eq_true q511
         go_wp2_with (first | ((with_reducible refine gate_dst (N := 17) rfl ?_); refine box_event ?hg (N := 17) ?hd (cs := #[.string (⟨#[]⟩ : ByteArray), .slice none 0 0, .slice none 0 0]) (t := 51) ?hr ?_; (case hd => rfl); (case hg => rfl); (case hr => first | (go_simp; done) | (go_simp; rfl)); intro gb512 hg w72 hbox hb; have BK512 := Aside0.mk (hbox); have GW512 := Aside0.mk ((by rw [hg]; exact (below_size (lb1 HB.out GE500.out)) : w.heap.size ≤ gb512)); have GE512 := Aside0.mk ((by rw [hg]; exact (below_size (lb1 HB.out GE500.out)) : w.heap.size ≤ gb512)); replace HB := Aside0.mk (below_step (lb1 HB.out GE500.out) hb); have NB500_512 := Aside0.mk ((by rw [hg]; exact Nat.ne_of_lt (blk_lt (g := gb500) (o := .cells #[.slice A0_0 l0_0.length c0_0, .slice A0_1 l0_1.length c0_1, .slice A0_2 l0_2.length c0_2, .slice A0_3 l0_3.length c0_3, .slice A0_4 l0_4.length c0_4, .slice (some ad511) l0_5.length c0_5] 28 (0, 0)) (lk BK500.out)) : gb500 ≠ gb512)); have NB512_500 := Aside0.mk ((by rw [hg]; exact Nat.ne_of_gt (blk_lt (g := gb500) (o := .cells #[.slice A0_0 l0_0.length c0_0, .slice A0_1 l0_1.length c0_1, .slice A0_2 l0_2.length c0_2, .slice A0_3 l0_3.length c0_3, .slice A0_4 l0_4.length c0_4, .slice (some ad511) l0_5.length c0_5] 28 (0, 0)) (lk BK500.out)) : gb512 ≠ gb500)); replace BK500 := Aside0.mk (blk_below (g := gb500) (o := .cells #[.slice A0_0 l0_0.length c0_0, .slice A0_1 l0_1.length c0_1, .slice A0_2 l0_2.length c0_2, .slice A0_3 l0_3.length c0_3, .slice A0_4 l0_4.length c0_4, .slice (some ad511) l0_5.length c0_5] 28 (0, 0)) (lk BK500.out) hb); clear hb hbox hg; have hnb73 := NB512_500.out; have hnc73 := NB500_512.out; have hcz74_0 : w72.cell? ⟨gb512, 0, none⟩ = some (.string (⟨#[]⟩ : ByteArray)) := (blk_cell BK512.out 0).trans rfl; have hcz74_1 : w72.cell? ⟨gb512, 1, none⟩ = some (.slice none 0 0) := (blk_cell BK512.out 1).trans rfl; have hcz74_2 : w72.cell? ⟨gb512, 2, none⟩ = some (.slice none 0 0) := (blk_cell BK512.out 2).trans rfl; have hfz74_0 := blk_frozen BK512.out 0; have hfz74_1 := blk_frozen BK512.out 1; have hfz74_2 := blk_frozen BK512.out 2))
         go_roundg k3
         case measure => have := HJ4.out; have := HK2.out; have := HK3.out; omega
         case rel => exact ⟨(x14_3), (x15_3), (wrap64 (x16_3 + 1)), (by first | rfl | (simp; done) | (simp [*]; done)), (by first | rfl | (simp; done) | (simp [*]; done)), (by first | rfl | (simp; done) | (simp [*]; done)), H', ⟨by have := HJ4.out; have := HK2.out; have := HK3.out; omega⟩, ⟨by (with_reducible repeat (first | refine blk_drewN ?_ _ | refine blk_drew ?_ | refine blk_alloc ?_ _)); refine blk_far ?_ NB500_512.out _; (with_reducible repeat (first | refine blk_drewN ?_ _ | refine blk_drew ?_ | refine blk_alloc ?_ _)); refine blk_far ?_ NB500_512.out _; (with_reducible repeat (first | refine blk_drewN ?_ _ | refine blk_drew ?_ | refine blk_alloc ?_ _)); refine blk_far ?_ NB500_512.out _; (with_reducible repeat (first | refine blk_drewN ?_ _ | refine blk_drew ?_ | refine blk_alloc ?_ _)); exact BK500.out⟩, ⟨lb2 HB.out GE500.out GE512.out⟩⟩
        rw [if_pos c54] at H
        have c54b0 : (((rd_T51 l0_5 x16_3).f0).toList == a1.toList) = true := beq_iff_eq.mpr c54
        have c54b1 : (((rd_T51 l0_5 x16_3).f0).toList != a1.toList) = false := bne_eq_false_iff_eq.mpr c54
        clear c54
        by_cases c55 : x15_3 = true
        ·subst c55
         have H1 : (entailref22_May.l2 k3 a1 a2 a3 x9_2 true true (wrap64 (x16_3 + 1)) l0_0 l0_1 l0_2 l0_3 l0_4 l0_5) = some r := by rw [if_pos rfl] at H; exact H
         clear H
         have H := H1
         clear H1
         have H' := Aside0.mk H
         clear H
         have hcz56_0 : wr.cell? ⟨gb500, 0, none⟩ = some (.slice A0_0 l0_0.length c0_0) := (blk_cell BK500.out 0).trans rfl
         have hcz56_1 : wr.cell? ⟨gb500, 1, none⟩ = some (.slice A0_1 l0_1.length c0_1) := (blk_cell BK500.out 1).trans rfl
         have hcz56_2 : wr.cell? ⟨gb500, 2, none⟩ = some (.slice A0_2 l0_2.length c0_2) := (blk_cell BK500.out 2).trans rfl
         have hcz56_3 : wr.cell? ⟨gb500, 3, none⟩ = some (.slice A0_3 l0_3.length c0_3) := (blk_cell BK500.out 3).trans rfl
         have hcz56_4 : wr.cell? ⟨gb500, 4, none⟩ = some (.slice A0_4 l0_4.length c0_4) := (blk_cell BK500.out 4).trans rfl
         have hcz56_5 : wr.cell? ⟨gb500, 5, none⟩ = some (.slice A0_5 l0_5.length c0_5) := (blk_cell BK500.out 5).trans rfl
         have hfz56_0 := blk_frozen BK500.out 0
         have hfz56_1 := blk_frozen BK500.out 1
         have hfz56_2 := blk_frozen BK500.out 2
         have hfz56_3 := blk_frozen BK500.out 3
         have hfz56_4 := blk_frozen BK500.out 4
         have hfz56_5 := blk_frozen BK500.out 5
         have p511 : 0 ≤ (x16_3 : Int) := of_decide_eq_true (by first | (with_reducible assumption) | assumption)
         have q511 : x16_3 < (l0_5.length : Int) := of_decide_eq_true (by first | (with_reducible assumption) | assumption)
         obtain ⟨ad511, A511_1, c511_1, A511_2, c511_2, e511, hx511_0, hx511_1, hx511_2, hl511_1, hi511_1, hl511_2, hi511_2⟩ := at_T51 HR0_5.out x16_3 p511 q511
         cases e511
         replace hx511_0 := (HB.out.cell (World.block_lt_of_cell? w _ hx511_0)).trans hx511_0
         replace hx511_1 := (HB.out.cell (World.block_lt_of_cell? w _ hx511_1)).trans hx511_1
         replace hx511_2 := (HB.out.cell (World.block_lt_of_cell? w _ hx511_2)).trans hx511_2
         have HR511_1 := Aside0.mk hi511_1
         have HC511_1 := Aside0.mk hl511_1
         clear hi511_1 hl511_1
         have HR511_2 := Aside0.mk hi511_2
         have HC511_2 := Aside0.mk hl511_2
         clear hi511_2 hl511_2
         replace p511 := eq_true p511
         replace q511 := eq_true q511
         go_wp2_with (first | ((with_reducible refine gate_dst (N := 17) rfl ?_); refine box_event ?hg (N := 17) ?hd (cs := #[.string (⟨#[]⟩ : ByteArray), .slice none 0 0, .slice none 0 0]) (t := 51) ?hr ?_; (case hd => rfl); (case hg => rfl); (case hr => first | (go_simp; done) | (go_simp; rfl)); intro gb512 hg w57 hbox hb; have BK512 := Aside0.mk (hbox); have GW512 := Aside0.mk ((by rw [hg]; exact (below_size (lb1 HB.out GE500.out)) : w.heap.size ≤ gb512)); have GE512 := Aside0.mk ((by rw [hg]; exact (below_size (lb1 HB.out GE500.out)) : w.heap.size ≤ gb512)); replace HB := Aside0.mk (below_step (lb1 HB.out GE500.out) hb); have NB500_512 := Aside0.mk ((by rw [hg]; exact Nat.ne_of_lt (blk_lt (g := gb500) (o := .cells #[.slice A0_0 l0_0.length c0_0, .slice A0_1 l0_1.length c0_1, .slice A0_2 l0_2.length c0_2, .slice A0_3 l0_3.length c0_3, .slice A0_4 l0_4.length c0_4, .slice (some ad511) l0_5.length c0_5] 28 (0, 0)) (lk BK500.out)) : gb500 ≠ gb512)); have NB512_500 := Aside0.mk ((by rw [hg]; exact Nat.ne_of_gt (blk_lt (g := gb500) (o := .cells #[.slice A0_0 l0_0.length c0_0, .slice A0_1 l0_1.length c0_1, .slice A0_2 l0_2.length c0_2, .slice A0_3 l0_3.length c0_3, .slice A0_4 l0_4.length c0_4, .slice (some ad511) l0_5.length c0_5] 28 (0, 0)) (lk BK500.out)) : gb512 ≠ gb500)); replace BK500 := Aside0.mk (blk_below (g := gb500) (o := .cells #[.slice A0_0 l0_0.length c0_0, .slice A0_1 l0_1.length c0_1, .slice A0_2 l0_2.length c0_2, .slice A0_3 l0_3.length c0_3, .slice A0_4 l0_4.length c0_4, .slice (some ad511) l0_5.length c0_5] 28 (0, 0)) (lk BK500.out) hb); clear hb hbox hg; have hnb58 := NB512_500.out; have hnc58 := NB500_512.out; have hcz59_0 : w57.cell? ⟨gb512, 0, none⟩ = some (.string (⟨#[]⟩ : ByteArray)) := (blk_cell BK512.out 0).trans rfl; have hcz59_1 : w57.cell? ⟨gb512, 1, none⟩ = some (.slice none 0 0) := (blk_cell BK512.out 1).trans rfl; have hcz59_2 : w57.cell? ⟨gb512, 2, none⟩ = some (.slice none 0 0) := (blk_cell BK512.out 2).trans rfl; have hfz59_0 := blk_frozen BK512.out 0; have hfz59_1 := blk_frozen BK512.out 1; have hfz59_2 := blk_frozen BK512.out 2))
         go_roundg k3
         case measure => have := HJ4.out; have := HK2.out; have := HK3.out; omega
         case rel => exact ⟨(true), (true), (wrap64 (x16_3 + 1)), (by first | rfl | (simp; done) | (simp [*]; done)), (by first | rfl | (simp; done) | (simp [*]; done)), (by first | rfl | (simp; done) | (simp [*]; done)), H', ⟨by have := HJ4.out; have := HK2.out; have := HK3.out; omega⟩, ⟨by (with_reducible repeat (first | refine blk_drewN ?_ _ | refine blk_drew ?_ | refine blk_alloc ?_ _)); refine blk_far ?_ NB500_512.out _; (with_reducible repeat (first | refine blk_drewN ?_ _ | refine blk_drew ?_ | refine blk_alloc ?_ _)); refine blk_far ?_ NB500_512.out _; (with_reducible repeat (first | refine blk_drewN ?_ _ | refine blk_drew ?_ | refine blk_alloc ?_ _)); refine blk_far ?_ NB500_512.out _; (with_reducible repeat (first | refine blk_drewN ?_ _ | refine blk_drew ?_ | refine blk_alloc ?_ _)); exact BK500.out⟩, ⟨lb2 HB.out GE500.out GE512.out⟩⟩
        replace c55 := Bool.eq_false_iff.mpr c55
        subst c55
        have H1 : ((entailref22_matches.f k3 ((rd_T51 l0_5 x16_3).f1) a2).bind fun t513 => (if t513 = true then ((entailref22_matches.f k3 ((rd_T51 l0_5 x16_3).f2) a3).bind fun t514 => (entailref22_May.l2 k3 a1 a2 a3 x9_2 true t514 (wrap64 (x16_3 + 1)) l0_0 l0_1 l0_2 l0_3 l0_4 l0_5)) else (entailref22_May.l2 k3 a1 a2 a3 x9_2 true false (wrap64 (x16_3 + 1)) l0_0 l0_1 l0_2 l0_3 l0_4 l0_5))) = some r := by rw [if_neg (show ¬ (false = true) by decide)] at H; exact H
        clear H
        have H := H1
        clear H1
        replace H := Option.bind_eq_some_iff.mp H
        obtain ⟨t513, A600, H⟩ := H
        have A60 := Aside0.mk A600
        clear A600
        by_cases c61 : t513 = true
        rotate_left
        ·replace c61 := Bool.eq_false_iff.mpr c61
         subst c61
         have H1 : (entailref22_May.l2 k3 a1 a2 a3 x9_2 true false (wrap64 (x16_3 + 1)) l0_0 l0_1 l0_2 l0_3 l0_4 l0_5) = some r := by rw [if_neg (show ¬ (false = true) by decide)] at H; exact H
         clear H
         have H := H1
         clear H1
         have H' := Aside0.mk H
         clear H
         have hcz67_0 : wr.cell? ⟨gb500, 0, none⟩ = some (.slice A0_0 l0_0.length c0_0) := (blk_cell BK500.out 0).trans rfl
         have hcz67_1 : wr.cell? ⟨gb500, 1, none⟩ = some (.slice A0_1 l0_1.length c0_1) := (blk_cell BK500.out 1).trans rfl
         have hcz67_2 : wr.cell? ⟨gb500, 2, none⟩ = some (.slice A0_2 l0_2.length c0_2) := (blk_cell BK500.out 2).trans rfl
         have hcz67_3 : wr.cell? ⟨gb500, 3, none⟩ = some (.slice A0_3 l0_3.length c0_3) := (blk_cell BK500.out 3).trans rfl
         have hcz67_4 : wr.cell? ⟨gb500, 4, none⟩ = some (.slice A0_4 l0_4.length c0_4) := (blk_cell BK500.out 4).trans rfl
         have hcz67_5 : wr.cell? ⟨gb500, 5, none⟩ = some (.slice A0_5 l0_5.length c0_5) := (blk_cell BK500.out 5).trans rfl
         have hfz67_0 := blk_frozen BK500.out 0
         have hfz67_1 := blk_frozen BK500.out 1
         have hfz67_2 := blk_frozen BK500.out 2
         have hfz67_3 := blk_frozen BK500.out 3
         have hfz67_4 := blk_frozen BK500.out 4
         have hfz67_5 := blk_frozen BK500.out 5
         have p511 : 0 ≤ (x16_3 : Int) := of_decide_eq_true (by first | (with_reducible assumption) | assumption)
         have q511 : x16_3 < (l0_5.length : Int) := of_decide_eq_true (by first | (with_reducible assumption) | assumption)
         obtain ⟨ad511, A511_1, c511_1, A511_2, c511_2, e511, hx511_0, hx511_1, hx511_2, hl511_1, hi511_1, hl511_2, hi511_2⟩ := at_T51 HR0_5.out x16_3 p511 q511
         cases e511
         replace hx511_0 := (HB.out.cell (World.block_lt_of_cell? w _ hx511_0)).trans hx511_0
         replace hx511_1 := (HB.out.cell (World.block_lt_of_cell? w _ hx511_1)).trans hx511_1
         replace hx511_2 := (HB.out.cell (World.block_lt_of_cell? w _ hx511_2)).trans hx511_2
         have HR511_1 := Aside0.mk hi511_1
         have HC511_1 := Aside0.mk hl511_1
         clear hi511_1 hl511_1
         have HR511_2 := Aside0.mk hi511_2
         have HC511_2 := Aside0.mk hl511_2
         clear hi511_2 hl511_2
         replace p511 := eq_true p511
         replace q511 := eq_true q511
         go_wp2_with (first | ((with_reducible refine gate_dst (N := 17) rfl ?_); refine box_event ?hg (N := 17) ?hd (cs := #[.string (⟨#[]⟩ : ByteArray), .slice none 0 0, .slice none 0 0]) (t := 51) ?hr ?_; (case hd => rfl); (case hg => rfl); (case hr => first | (go_simp; done) | (go_simp; rfl)); intro gb512 hg w68 hbox hb; have BK512 := Aside0.mk (hbox); have GW512 := Aside0.mk ((by rw [hg]; exact (below_size (lb1 HB.out GE500.out)) : w.heap.size ≤ gb512)); have GE512 := Aside0.mk ((by rw [hg]; exact (below_size (lb1 HB.out GE500.out)) : w.heap.size ≤ gb512)); replace HB := Aside0.mk (below_step (lb1 HB.out GE500.out) hb); have NB500_512 := Aside0.mk ((by rw [hg]; exact Nat.ne_of_lt (blk_lt (g := gb500) (o := .cells #[.slice A0_0 l0_0.length c0_0, .slice A0_1 l0_1.length c0_1, .slice A0_2 l0_2.length c0_2, .slice A0_3 l0_3.length c0_3, .slice A0_4 l0_4.length c0_4, .slice (some ad511) l0_5.length c0_5] 28 (0, 0)) (lk BK500.out)) : gb500 ≠ gb512)); have NB512_500 := Aside0.mk ((by rw [hg]; exact Nat.ne_of_gt (blk_lt (g := gb500) (o := .cells #[.slice A0_0 l0_0.length c0_0, .slice A0_1 l0_1.length c0_1, .slice A0_2 l0_2.length c0_2, .slice A0_3 l0_3.length c0_3, .slice A0_4 l0_4.length c0_4, .slice (some ad511) l0_5.length c0_5] 28 (0, 0)) (lk BK500.out)) : gb512 ≠ gb500)); replace BK500 := Aside0.mk (blk_below (g := gb500) (o := .cells #[.slice A0_0 l0_0.length c0_0, .slice A0_1 l0_1.length c0_1, .slice A0_2 l0_2.length c0_2, .slice A0_3 l0_3.length c0_3, .slice A0_4 l0_4.length c0_4, .slice (some ad511) l0_5.length c0_5] 28 (0, 0)) (lk BK500.out) hb); clear hb hbox hg; have hnb69 := NB512_500.out; have hnc69 := NB500_512.out; have hcz70_0 : w68.cell? ⟨gb512, 0, none⟩ = some (.string (⟨#[]⟩ : ByteArray)) := (blk_cell BK512.out 0).trans rfl; have hcz70_1 : w68.cell? ⟨gb512, 1, none⟩ = some (.slice none 0 0) := (blk_cell BK512.out 1).trans rfl; have hcz70_2 : w68.cell? ⟨gb512, 2, none⟩ = some (.slice none 0 0) := (blk_cell BK512.out 2).trans rfl; have hfz70_0 := blk_frozen BK512.out 0; have hfz70_1 := blk_frozen BK512.out 1; have hfz70_2 := blk_frozen BK512.out 2) | (go_at_call 33; (with_reducible refine (entailref22_matches.calls k3 _ _ ((rd_T51 l0_5 x16_3).f1) a2 false _ ?side1 ?side2 A60.out).mono ?_); (case side1 => exact Kd.C_below HR511_1.out (lb2 HB.out GE500.out GE512.out)); (case side2 => exact HC511_1.out); rintro e w' ⟨rfl, ⟨nd, rfl⟩⟩))
         go_roundg k3
         case measure => have := HJ4.out; have := HK2.out; have := HK3.out; omega
         case rel => exact ⟨(true), (false), (wrap64 (x16_3 + 1)), (by first | rfl | (simp; done) | (simp [*]; done)), (by first | rfl | (simp; done) | (simp [*]; done)), (by first | rfl | (simp; done) | (simp [*]; done)), H', ⟨by have := HJ4.out; have := HK2.out; have := HK3.out; omega⟩, ⟨by (with_reducible repeat (first | refine blk_drewN ?_ _ | refine blk_drew ?_ | refine blk_alloc ?_ _)); refine blk_far ?_ NB500_512.out _; (with_reducible repeat (first | refine blk_drewN ?_ _ | refine blk_drew ?_ | refine blk_alloc ?_ _)); refine blk_far ?_ NB500_512.out _; (with_reducible repeat (first | refine blk_drewN ?_ _ | refine blk_drew ?_ | refine blk_alloc ?_ _)); refine blk_far ?_ NB500_512.out _; (with_reducible repeat (first | refine blk_drewN ?_ _ | refine blk_drew ?_ | refine blk_alloc ?_ _)); exact BK500.out⟩, ⟨lb2 HB.out GE500.out GE512.out⟩⟩
        subst c61
        have H1 : ((entailref22_matches.f k3 ((rd_T51 l0_5 x16_3).f2) a3).bind fun t514 => (entailref22_May.l2 k3 a1 a2 a3 x9_2 true t514 (wrap64 (x16_3 + 1)) l0_0 l0_1 l0_2 l0_3 l0_4 l0_5)) = some r := by rw [if_pos rfl] at H; exact H
        clear H
        have H := H1
        clear H1
        replace H := Option.bind_eq_some_iff.mp H
        obtain ⟨t514, A620, H⟩ := H
        have A62 := Aside0.mk A620
        clear A620
        have H' := Aside0.mk H
        clear H
        have hcz63_0 : wr.cell? ⟨gb500, 0, none⟩ = some (.slice A0_0 l0_0.length c0_0) := (blk_cell BK500.out 0).trans rfl
        have hcz63_1 : wr.cell? ⟨gb500, 1, none⟩ = some (.slice A0_1 l0_1.length c0_1) := (blk_cell BK500.out 1).trans rfl
        have hcz63_2 : wr.cell? ⟨gb500, 2, none⟩ = some (.slice A0_2 l0_2.length c0_2) := (blk_cell BK500.out 2).trans rfl
        have hcz63_3 : wr.cell? ⟨gb500, 3, none⟩ = some (.slice A0_3 l0_3.length c0_3) := (blk_cell BK500.out 3).trans rfl
        have hcz63_4 : wr.cell? ⟨gb500, 4, none⟩ = some (.slice A0_4 l0_4.length c0_4) := (blk_cell BK500.out 4).trans rfl
        have hcz63_5 : wr.cell? ⟨gb500, 5, none⟩ = some (.slice A0_5 l0_5.length c0_5) := (blk_cell BK500.out 5).trans rfl
        have hfz63_0 := blk_frozen BK500.out 0
        have hfz63_1 := blk_frozen BK500.out 1
        have hfz63_2 := blk_frozen BK500.out 2
        have hfz63_3 := blk_frozen BK500.out 3
        have hfz63_4 := blk_frozen BK500.out 4
        have hfz63_5 := blk_frozen BK500.out 5
        have p511 : 0 ≤ (x16_3 : Int) := of_decide_eq_true (by first | (with_reducible assumption) | assumption)
        have q511 : x16_3 < (l0_5.length : Int) := of_decide_eq_true (by first | (with_reducible assumption) | assumption)
        obtain ⟨ad511, A511_1, c511_1, A511_2, c511_2, e511, hx511_0, hx511_1, hx511_2, hl511_1, hi511_1, hl511_2, hi511_2⟩ := at_T51 HR0_5.out x16_3 p511 q511
        cases e511
        replace hx511_0 := (HB.out.cell (World.block_lt_of_cell? w _ hx511_0)).trans hx511_0
        replace hx511_1 := (HB.out.cell (World.block_lt_of_cell? w _ hx511_1)).trans hx511_1
        replace hx511_2 := (HB.out.cell (World.block_lt_of_cell? w _ hx511_2)).trans hx511_2
        have HR511_1 := Aside0.mk hi511_1
        have HC511_1 := Aside0.mk hl511_1
        clear hi511_1 hl511_1
        have HR511_2 := Aside0.mk hi511_2
        have HC511_2 := Aside0.mk hl511_2
        clear hi511_2 hl511_2
        replace p511 := eq_true p511
        replace q511 := eq_true q511
        go_wp2_with (first | ((with_reducible refine gate_dst (N := 17) rfl ?_); refine box_event ?hg (N := 17) ?hd (cs := #[.string (⟨#[]⟩ : ByteArray), .slice none 0 0, .slice none 0 0]) (t := 51) ?hr ?_; (case hd => rfl); (case hg => rfl); (case hr => first | (go_simp; done) | (go_simp; rfl)); intro gb512 hg w64 hbox hb; have BK512 := Aside0.mk (hbox); have GW512 := Aside0.mk ((by rw [hg]; exact (below_size (lb1 HB.out GE500.out)) : w.heap.size ≤ gb512)); have GE512 := Aside0.mk ((by rw [hg]; exact (below_size (lb1 HB.out GE500.out)) : w.heap.size ≤ gb512)); replace HB := Aside0.mk (below_step (lb1 HB.out GE500.out) hb); have NB500_512 := Aside0.mk ((by rw [hg]; exact Nat.ne_of_lt (blk_lt (g := gb500) (o := .cells #[.slice A0_0 l0_0.length c0_0, .slice A0_1 l0_1.length c0_1, .slice A0_2 l0_2.length c0_2, .slice A0_3 l0_3.length c0_3, .slice A0_4 l0_4.length c0_4, .slice (some ad511) l0_5.length c0_5] 28 (0, 0)) (lk BK500.out)) : gb500 ≠ gb512)); have NB512_500 := Aside0.mk ((by rw [hg]; exact Nat.ne_of_gt (blk_lt (g := gb500) (o := .cells #[.slice A0_0 l0_0.length c0_0, .slice A0_1 l0_1.length c0_1, .slice A0_2 l0_2.length c0_2, .slice A0_3 l0_3.length c0_3, .slice A0_4 l0_4.length c0_4, .slice (some ad511) l0_5.length c0_5] 28 (0, 0)) (lk BK500.out)) : gb512 ≠ gb500)); replace BK500 := Aside0.mk (blk_below (g := gb500) (o := .cells #[.slice A0_0 l0_0.length c0_0, .slice A0_1 l0_1.length c0_1, .slice A0_2 l0_2.length c0_2, .slice A0_3 l0_3.length c0_3, .slice A0_4 l0_4.length c0_4, .slice (some ad511) l0_5.length c0_5] 28 (0, 0)) (lk BK500.out) hb); clear hb hbox hg; have hnb65 := NB512_500.out; have hnc65 := NB500_512.out; have hcz66_0 : w64.cell? ⟨gb512, 0, none⟩ = some (.string (⟨#[]⟩ : ByteArray)) := (blk_cell BK512.out 0).trans rfl; have hcz66_1 : w64.cell? ⟨gb512, 1, none⟩ = some (.slice none 0 0) := (blk_cell BK512.out 1).trans rfl; have hcz66_2 : w64.cell? ⟨gb512, 2, none⟩ = some (.slice none 0 0) := (blk_cell BK512.out 2).trans rfl; have hfz66_0 := blk_frozen BK512.out 0; have hfz66_1 := blk_frozen BK512.out 1; have hfz66_2 := blk_frozen BK512.out 2) | (go_at_call 33; (with_reducible refine (entailref22_matches.calls k3 _ _ ((rd_T51 l0_5 x16_3).f1) a2 true _ ?side1 ?side2 A60.out).mono ?_); (case side1 => exact Kd.C_below HR511_1.out (lb2 HB.out GE500.out GE512.out)); (case side2 => exact HC511_1.out); rintro e w' ⟨rfl, ⟨nd, rfl⟩⟩) | (go_at_call 33; (with_reducible refine (entailref22_matches.calls k3 _ _ ((rd_T51 l0_5 x16_3).f2) a3 t514 _ ?side1 ?side2 A62.out).mono ?_); (case side1 => exact Kd.C_below HR511_2.out (lb2 HB.out GE500.out GE512.out)); (case side2 => exact HC511_2.out); rintro e w' ⟨rfl, ⟨nd, rfl⟩⟩))
        go_roundg k3
        case measure => have := HJ4.out; have := HK2.out; have := HK3.out; omega
        case rel => exact ⟨(true), (t514), (wrap64 (x16_3 + 1)), (by first | rfl | (simp; done) | (simp [*]; done)), (by first | rfl | (simp; done) | (simp [*]; done)), (by first | rfl | (simp; done) | (simp [*]; done)), H', ⟨by have := HJ4.out; have := HK2.out; have := HK3.out; omega⟩, ⟨by (with_reducible repeat (first | refine blk_drewN ?_ _ | refine blk_drew ?_ | refine blk_alloc ?_ _)); refine blk_far ?_ NB500_512.out _; (with_reducible repeat (first | refine blk_drewN ?_ _ | refine blk_drew ?_ | refine blk_alloc ?_ _)); refine blk_far ?_ NB500_512.out _; (with_reducible repeat (first | refine blk_drewN ?_ _ | refine blk_drew ?_ | refine blk_alloc ?_ _)); refine blk_far ?_ NB500_512.out _; (with_reducible repeat (first | refine blk_drewN ?_ _ | refine blk_drew ?_ | refine blk_alloc ?_ _)); exact BK500.out⟩, ⟨lb2 HB.out GE500.out GE512.out⟩⟩
     rw [if_pos c16] at H
     have c16b0 : decide (x10_2 < (l0_4.length : Int)) = true := decide_eq_true c16
     clear c16
     by_cases c17 : 0 ≤ x10_2
     rotate_left
     ·rw [if_neg c17] at H
      exact absurd H (by simp)
     rw [if_pos c17] at H
     have c17b0 : decide (0 ≤ x10_2) = true := decide_eq_true c17
     clear c17
     replace H := Option.bind_eq_some_iff.mp H
     obtain ⟨t506, A180, H⟩ := H
     have A18 := Aside0.mk A180
     clear A180
     have H' := Aside0.mk H
     clear H
     have hcz19_0 : wr.cell? ⟨gb500, 0, none⟩ = some (.slice A0_0 l0_0.length c0_0) := (blk_cell BK500.out 0).trans rfl
     have hcz19_1 : wr.cell? ⟨gb500, 1, none⟩ = some (.slice A0_1 l0_1.length c0_1) := (blk_cell BK500.out 1).trans rfl
     have hcz19_2 : wr.cell? ⟨gb500, 2, none⟩ = some (.slice A0_2 l0_2.length c0_2) := (blk_cell BK500.out 2).trans rfl
     have hcz19_3 : wr.cell? ⟨gb500, 3, none⟩ = some (.slice A0_3 l0_3.length c0_3) := (blk_cell BK500.out 3).trans rfl
     have hcz19_4 : wr.cell? ⟨gb500, 4, none⟩ = some (.slice A0_4 l0_4.length c0_4) := (blk_cell BK500.out 4).trans rfl
     have hcz19_5 : wr.cell? ⟨gb500, 5, none⟩ = some (.slice A0_5 l0_5.length c0_5) := (blk_cell BK500.out 5).trans rfl
     have hfz19_0 := blk_frozen BK500.out 0
     have hfz19_1 := blk_frozen BK500.out 1
     have hfz19_2 := blk_frozen BK500.out 2
     have hfz19_3 := blk_frozen BK500.out 3
     have hfz19_4 := blk_frozen BK500.out 4
     have hfz19_5 := blk_frozen BK500.out 5
     have p504 : 0 ≤ (x10_2 : Int) := of_decide_eq_true (by first | (with_reducible assumption) | assumption)
     have q504 : x10_2 < (l0_4.length : Int) := of_decide_eq_true (by first | (with_reducible assumption) | assumption)
     obtain ⟨ad504, A504_2, c504_2, A504_3, c504_3, A504_4, c504_4, A504_5, c504_5, e504, hx504_0, hx504_1, hx504_2, hx504_3, hx504_4, hx504_5, hl504_2, hi504_2, hl504_3, hi504_3, hl504_4, hi504_4, hl504_5, hi504_5⟩ := at_T34 HR0_4.out x10_2 p504 q504
     cases e504
     replace hx504_0 := (HB.out.cell (World.block_lt_of_cell? w _ hx504_0)).trans hx504_0
     replace hx504_1 := (HB.out.cell (World.block_lt_of_cell? w _ hx504_1)).trans hx504_1
     replace hx504_2 := (HB.out.cell (World.block_lt_of_cell? w _ hx504_2)).trans hx504_2
     replace hx504_3 := (HB.out.cell (World.block_lt_of_cell? w _ hx504_3)).trans hx504_3
     replace hx504_4 := (HB.out.cell (World.block_lt_of_cell? w _ hx504_4)).trans hx504_4
     replace hx504_5 := (HB.out.cell (World.block_lt_of_cell? w _ hx504_5)).trans hx504_5
     have HR504_2 := Aside0.mk hi504_2
     have HC504_2 := Aside0.mk hl504_2
     clear hi504_2 hl504_2
     have HR504_3 := Aside0.mk hi504_3
     have HC504_3 := Aside0.mk hl504_3
     clear hi504_3 hl504_3
     have HR504_4 := Aside0.mk hi504_4
     have HC504_4 := Aside0.mk hl504_4
     clear hi504_4 hl504_4
     have HR504_5 := Aside0.mk hi504_5
     have HC504_5 := Aside0.mk hl504_5
     clear hi504_5 hl504_5
     replace p504 := eq_true p504
     replace q504 := eq_true q504
     go_wp2_with (first | ((with_reducible refine gate_dst (N := 11) rfl ?_); refine box_event ?hg (N := 11) ?hd (cs := #[.string (⟨#[]⟩ : ByteArray), .bool false, .slice none 0 0, .slice none 0 0, .slice none 0 0, .slice none 0 0]) (t := 34) ?hr ?_; (case hd => rfl); (case hg => rfl); (case hr => first | (go_simp; done) | (go_simp; rfl)); intro gb505 hg w20 hbox hb; have BK505 := Aside0.mk (hbox); have GW505 := Aside0.mk ((by rw [hg]; exact (below_size (lb1 HB.out GE500.out)) : w.heap.size ≤ gb505)); have GE505 := Aside0.mk ((by rw [hg]; exact (below_size (lb1 HB.out GE500.out)) : w.heap.size ≤ gb505)); replace HB := Aside0.mk (below_step (lb1 HB.out GE500.out) hb); have NB500_505 := Aside0.mk ((by rw [hg]; exact Nat.ne_of_lt (blk_lt (g := gb500) (o := .cells #[.slice A0_0 l0_0.length c0_0, .slice A0_1 l0_1.length c0_1, .slice A0_2 l0_2.length c0_2, .slice A0_3 l0_3.length c0_3, .slice (some ad504) l0_4.length c0_4, .slice A0_5 l0_5.length c0_5] 28 (0, 0)) (lk BK500.out)) : gb500 ≠ gb505)); have NB505_500 := Aside0.mk ((by rw [hg]; exact Nat.ne_of_gt (blk_lt (g := gb500) (o := .cells #[.slice A0_0 l0_0.length c0_0, .slice A0_1 l0_1.length c0_1, .slice A0_2 l0_2.length c0_2, .slice A0_3 l0_3.length c0_3, .slice (some ad504) l0_4.length c0_4, .slice A0_5 l0_5.length c0_5] 28 (0, 0)) (lk BK500.out)) : gb505 ≠ gb500)); replace BK500 := Aside0.mk (blk_below (g := gb500) (o := .cells #[.slice A0_0 l0_0.length c0_0, .slice A0_1 l0_1.length c0_1, .slice A0_2 l0_2.length c0_2, .slice A0_3 l0_3.length c0_3, .slice (some ad504) l0_4.length c0_4, .slice A0_5 l0_5.length c0_5] 28 (0, 0)) (lk BK500.out) hb); clear hb hbox hg; have hnb21 := NB505_500.out; have hnc21 := NB500_505.out; have hcz22_0 : w20.cell? ⟨gb505, 0, none⟩ = some (.string (⟨#[]⟩ : ByteArray)) := (blk_cell BK505.out 0).trans rfl; have hcz22_1 : w20.cell? ⟨gb505, 1, none⟩ = some (.bool false) := (blk_cell BK505.out 1).trans rfl; have hcz22_2 : w20.cell? ⟨gb505, 2, none⟩ = some (.slice none 0 0) := (blk_cell BK505.out 2).trans rfl; have hcz22_3 : w20.cell? ⟨gb505, 3, none⟩ = some (.slice none 0 0) := (blk_cell BK505.out 3).trans rfl; have hcz22_4 : w20.cell? ⟨gb505, 4, none⟩ = some (.slice none 0 0) := (blk_cell BK505.out 4).trans rfl; have hcz22_5 : w20.cell? ⟨gb505, 5, none⟩ = some (.slice none 0 0) := (blk_cell BK505.out 5).trans rfl; have hfz22_0 := blk_frozen BK505.out 0; have hfz22_1 := blk_frozen BK505.out 1; have hfz22_2 := blk_frozen BK505.out 2; have hfz22_3 := blk_frozen BK505.out 3; have hfz22_4 := blk_frozen BK505.out 4; have hfz22_5 := blk_frozen BK505.out 5) | ((with_reducible refine gate_callee (f := 34) rfl ?_); refine goesL_ (some 52) rfl rfl Try.func34 (by kernel_rfl) rfl #[.slice A504_2 ((rd_T34 l0_4 x10_2).f2).length c504_2, .string a1] rfl (by (try simp only [List.map_toArray, List.map_cons, List.map_nil]); first | done | rfl | (simp only [List.length_drop, List.length_take]; rfl)) ?_; (with_reducible refine (entailref22_In.calls k2 _ _ ((rd_T34 l0_4 x10_2).f2) a1 t506 _ ?side1 ?side2 A18.out).mono ?_); (case side1 => exact Kd.C_below HR504_2.out (lb2 HB.out GE500.out GE505.out)); (case side2 => exact HC504_2.out); rintro e w' ⟨rfl, ⟨nd, rfl⟩⟩; refine ⟨_, rfl, ?_⟩))
     go_loopg [12, 13] k2 (fun kq v12 v13 w' => ∃ (x12_3 : Bool) (x13_3 : Int), v12 = .bool x12_3 ∧ v13 = .int .i64 x13_3 ∧ Aside0 (entailref22_May.l1 kq a1 a2 a3 x9_2 x10_2 x12_3 x13_3 l0_0 l0_1 l0_2 l0_3 l0_4 l0_5 ((rd_T34 l0_4 x10_2).f0) ((rd_T34 l0_4 x10_2).f1) ((rd_T34 l0_4 x10_2).f2) ((rd_T34 l0_4 x10_2).f3) ((rd_T34 l0_4 x10_2).f4) ((rd_T34 l0_4 x10_2).f5) = some r) ∧ Aside0 (kq ≤ k2) ∧ Aside0 (w'.heap[gb500]? = some (.cells #[(.slice A0_0 l0_0.length c0_0), (.slice A0_1 l0_1.length c0_1), (.slice A0_2 l0_2.length c0_2), (.slice A0_3 l0_3.length c0_3), (.slice (some ad504) l0_4.length c0_4), (.slice A0_5 l0_5.length c0_5)] 28 (0, 0))) ∧ Aside0 (w'.heap[gb505]? = some (.cells #[.string ((rd_T34 l0_4 x10_2).f0), .bool ((rd_T34 l0_4 x10_2).f1), (.slice A504_2 ((rd_T34 l0_4 x10_2).f2).length c504_2), (.slice A504_3 ((rd_T34 l0_4 x10_2).f3).length c504_3), (.slice A504_4 ((rd_T34 l0_4 x10_2).f4).length c504_4), (.slice A504_5 ((rd_T34 l0_4 x10_2).f5).length c504_5)] 34 (0, 0))) ∧ Aside0 (Below w.heap.size w w'))
     case atStart => exact ⟨(t506), (0), (by first | rfl | (simp; done) | (simp [*]; done)), (by first | rfl | (simp; done) | (simp [*]; done)), H', ⟨Nat.le_refl _⟩, ⟨by (with_reducible repeat (first | refine blk_drewN ?_ _ | refine blk_drew ?_ | refine blk_alloc ?_ _)); refine blk_far ?_ NB500_505.out _; (with_reducible repeat (first | refine blk_drewN ?_ _ | refine blk_drew ?_ | refine blk_alloc ?_ _)); refine blk_far ?_ NB500_505.out _; (with_reducible repeat (first | refine blk_drewN ?_ _ | refine blk_drew ?_ | refine blk_alloc ?_ _)); refine blk_far ?_ NB500_505.out _; (with_reducible repeat (first | refine blk_drewN ?_ _ | refine blk_drew ?_ | refine blk_alloc ?_ _)); refine blk_far ?_ NB500_505.out _; (with_reducible repeat (first | refine blk_drewN ?_ _ | refine blk_drew ?_ | refine blk_alloc ?_ _)); refine blk_far ?_ NB500_505.out _; (with_reducible repeat (first | refine blk_drewN ?_ _ | refine blk_drew ?_ | refine blk_alloc ?_ _)); refine blk_far ?_ NB500_505.out _; (with_reducible repeat (first | refine blk_drewN ?_ _ | refine blk_drew ?_ | refine blk_alloc ?_ _)); exact BK500.out⟩, ⟨by (with_reducible repeat (first | refine blk_drewN ?_ _ | refine blk_drew ?_ | refine blk_alloc ?_ _)); refine blk_put (cs := #[.string ((rd_T34 l0_4 x10_2).f0), .bool ((rd_T34 l0_4 x10_2).f1), .slice A504_2 ((rd_T34 l0_4 x10_2).f2).length c504_2, .slice A504_3 ((rd_T34 l0_4 x10_2).f3).length c504_3, .slice A504_4 ((rd_T34 l0_4 x10_2).f4).length c504_4, .slice none 0 0]) ?_ 5 _ rfl; (with_reducible repeat (first | refine blk_drewN ?_ _ | refine blk_drew ?_ | refine blk_alloc ?_ _)); refine blk_put (cs := #[.string ((rd_T34 l0_4 x10_2).f0), .bool ((rd_T34 l0_4 x10_2).f1), .slice A504_2 ((rd_T34 l0_4 x10_2).f2).length c504_2, .slice A504_3 ((rd_T34 l0_4 x10_2).f3).length c504_3, .slice none 0 0, .slice none 0 0]) ?_ 4 _ rfl; (with_reducible repeat (first | refine blk_drewN ?_ _ | refine blk_drew ?_ | refine blk_alloc ?_ _)); refine blk_put (cs := #[.string ((rd_T34 l0_4 x10_2).f0), .bool ((rd_T34 l0_4 x10_2).f1), .slice A504_2 ((rd_T34 l0_4 x10_2).f2).length c504_2, .slice none 0 0, .slice none 0 0, .slice none 0 0]) ?_ 3 _ rfl; (with_reducible repeat (first | refine blk_drewN ?_ _ | refine blk_drew ?_ | refine blk_alloc ?_ _)); refine blk_put (cs := #[.string ((rd_T34 l0_4 x10_2).f0), .bool ((rd_T34 l0_4 x10_2).f1), .slice none 0 0, .slice none 0 0, .slice none 0 0, .slice none 0 0]) ?_ 2 _ rfl; (with_reducible repeat (first | refine blk_drewN ?_ _ | refine blk_drew ?_ | refine blk_alloc ?_ _)); refine blk_put (cs := #[.string ((rd_T34 l0_4 x10_2).f0), .bool false, .slice none 0 0, .slice none 0 0, .slice none 0 0, .slice none 0 0]) ?_ 1 _ rfl; (with_reducible repeat (first | refine blk_drewN ?_ _ | refine blk_drew ?_ | refine blk_alloc ?_ _)); refine blk_put (cs := #[.string (⟨#[]⟩ : ByteArray), .bool false, .slice none 0 0, .slice none 0 0, .slice none 0 0, .slice none 0 0]) ?_ 0 _ rfl; (with_reducible repeat (first | refine blk_drewN ?_ _ | refine blk_drew ?_ | refine blk_alloc ?_ _)); exact BK505.out⟩, ⟨lb2 HB.out GE500.out GE505.out⟩⟩
     case round =>
      clear H'
      try clear c1
      try clear c2
      try clear p2
      try clear c3
      try clear c5
      try clear p5
      try clear q5
      try clear hx5
      try clear c8
      try clear c10
      try clear c15
      try clear c16
      try clear c16b0
      try clear c17
      try clear c17b0
      try clear c18
      try clear c21
      try clear hcz12_0
      try clear hcz12_1
      try clear hcz12_2
      try clear hcz12_3
      try clear hcz12_4
      try clear hcz12_5
      try clear hcz13_0
      try clear hcz13_1
      try clear hcz13_2
      try clear hcz13_3
      try clear hcz13_4
      try clear hcz13_5
      try clear hcz14_0
      try clear hcz14_1
      try clear hcz14_2
      try clear hcz14_3
      try clear hcz14_4
      try clear hcz14_5
      try clear hcz19_0
      try clear hcz19_1
      try clear hcz19_2
      try clear hcz19_3
      try clear hcz19_4
      try clear hcz19_5
      try clear hcz22_0
      try clear hcz22_1
      try clear hcz22_2
      try clear hcz22_3
      try clear hcz22_4
      try clear hcz22_5
      try clear hfz12_0
      try clear hfz12_1
      try clear hfz12_2
      try clear hfz12_3
      try clear hfz12_4
      try clear hfz12_5
      try clear hfz13_0
      try clear hfz13_1
      try clear hfz13_2
      try clear hfz13_3
      try clear hfz13_4
      try clear hfz13_5
      try clear hfz14_0
      try clear hfz14_1
      try clear hfz14_2
      try clear hfz14_3
      try clear hfz14_4
      try clear hfz14_5
      try clear hfz19_0
      try clear hfz19_1
      try clear hfz19_2
      try clear hfz19_3
      try clear hfz19_4
      try clear hfz19_5
      try clear hfz22_0
      try clear hfz22_1
      try clear hfz22_2
      try clear hfz22_3
      try clear hfz22_4
      try clear hfz22_5
      try clear hx504_0
      try clear hx504_1
      try clear hx504_2
      try clear hx504_3
      try clear hx504_4
      try clear hx504_5
      try clear p2
      try clear p504
      try clear q504
      obtain ⟨x12_3, x13_3, rfl, rfl, HA, HK3, BK500, BK505, HB⟩ := hrel
      cases gk with
      | zero => exact absurd HA.out (by simp [entailref22_May.l1])
      | succ k3 =>
       have H := HA.out
       clear HA
       simp only [entailref22_May.l1] at H
       by_cases c23 : x13_3 < (((rd_T34 l0_4 x10_2).f3).length : Int)
       ·rw [if_pos c23] at H
        have c23b0 : decide (x13_3 < (((rd_T34 l0_4 x10_2).f3).length : Int)) = true := decide_eq_true c23
        clear c23
        by_cases c24 : x12_3 = true
        ·subst c24
         have H1 : (entailref22_May.l1 k3 a1 a2 a3 x9_2 x10_2 true (wrap64 (x13_3 + 1)) l0_0 l0_1 l0_2 l0_3 l0_4 l0_5 ((rd_T34 l0_4 x10_2).f0) ((rd_T34 l0_4 x10_2).f1) ((rd_T34 l0_4 x10_2).f2) ((rd_T34 l0_4 x10_2).f3) ((rd_T34 l0_4 x10_2).f4) ((rd_T34 l0_4 x10_2).f5)) = some r := by rw [if_pos rfl] at H; exact H
         clear H
         have H := H1
         clear H1
         have H' := Aside0.mk H
         clear H
         have hnb25 := NB505_500.out
         have hnc25 := NB500_505.out
         have hcz26_0 : wr.cell? ⟨gb505, 0, none⟩ = some (.string ((rd_T34 l0_4 x10_2).f0)) := (blk_cell BK505.out 0).trans rfl
         have hcz26_1 : wr.cell? ⟨gb505, 1, none⟩ = some (.bool ((rd_T34 l0_4 x10_2).f1)) := (blk_cell BK505.out 1).trans rfl
         have hcz26_2 : wr.cell? ⟨gb505, 2, none⟩ = some (.slice A504_2 ((rd_T34 l0_4 x10_2).f2).length c504_2) := (blk_cell BK505.out 2).trans rfl
         have hcz26_3 : wr.cell? ⟨gb505, 3, none⟩ = some (.slice A504_3 ((rd_T34 l0_4 x10_2).f3).length c504_3) := (blk_cell BK505.out 3).trans rfl
         have hcz26_4 : wr.cell? ⟨gb505, 4, none⟩ = some (.slice A504_4 ((rd_T34 l0_4 x10_2).f4).length c504_4) := (blk_cell BK505.out 4).trans rfl
         have hcz26_5 : wr.cell? ⟨gb505, 5, none⟩ = some (.slice A504_5 ((rd_T34 l0_4 x10_2).f5).length c504_5) := (blk_cell BK505.out 5).trans rfl
         have hfz26_0 := blk_frozen BK505.out 0
         have hfz26_1 := blk_frozen BK505.out 1
         have hfz26_2 := blk_frozen BK505.out 2
         have hfz26_3 := blk_frozen BK505.out 3
         have hfz26_4 := blk_frozen BK505.out 4
         have hfz26_5 := blk_frozen BK505.out 5
         try go_wp2
         replace BK500 := Aside0.mk (blk_drew BK500.out)
         replace BK505 := Aside0.mk (blk_drew BK505.out)
         replace HB := Aside0.mk (below_drew1 HB.out)
         refine start_ (n := 12) (S := fun w' => True) (ds := []) #[bF,bF,bF,bF,bF,bF,bF,bF,bF,bF,bF,bF] (by kernel_rfl) rfl rfl trivial (fun hHeld => ?_); refine with_tabW entailref22_May.tab12 entailref22_May.bits12 (fun HT_ HW_ => ?_)
         generalize wr.drew = w27 at BK500 BK505 HB hHeld ⊢
         refine pure_ (i := 0) (N := some 60) (v := ?_) (a' := ?_) #[bT,bF,bF,bF,bF,bF,bF,bF,bF,bF,bF,bF] rfl rfl (any_of HT_.out (by kernel_rfl)) (fun _ _ _ h => h) (Or.inl ⟨by rfl, ?_⟩) ?_ ?_
         rotate_left
         ·intro w'
          go_simp
          with_reducible rfl
         rotate_left
         ·simp only [Act.put, qA, qB, qC, i64_w, i32_w]
          rfl
         refine pure_ (i := 1) (N := some 61) (v := ?_) (a' := ?_) #[bT,bT,bF,bF,bF,bF,bF,bF,bF,bF,bF,bF] rfl rfl (any_of HT_.out (by kernel_rfl)) (fun _ _ _ h => h) (Or.inl ⟨by rfl, ?_⟩) ?_ ?_
         rotate_left
         ·intro w'
          go_simp
          with_reducible rfl
         rotate_left
         ·simp only [Act.put, qA, qB, qC, i64_w, i32_w]
          rfl
         refine pure_ (i := 2) (N := some 62) (v := undef) (a' := ?_) #[bT,bT,bT,bF,bF,bF,bF,bF,bF,bF,bF,bF] rfl rfl (any_of HT_.out (by kernel_rfl)) (fun _ _ _ h => h) (Or.inr ⟨by rfl, rfl⟩) ?_ ?_
         rotate_left
         ·simp only [Act.put, qA, qB, qC, i64_w, i32_w]
          rfl
         refine pure_ (i := 3) (N := some 63) (v := undef) (a' := ?_) #[bT,bT,bT,bT,bF,bF,bF,bF,bF,bF,bF,bF] rfl rfl (any_of HT_.out (by kernel_rfl)) (fun _ _ _ h => h) (Or.inr ⟨by rfl, rfl⟩) ?_ ?_
         rotate_left
         ·simp only [Act.put, qA, qB, qC, i64_w, i32_w]
          rfl
         refine pure_ (i := 4) (N := some 64) (v := undef) (a' := ?_) #[bT,bT,bT,bT,bT,bF,bF,bF,bF,bF,bF,bF] rfl rfl (any_of HT_.out (by kernel_rfl)) (fun _ _ _ h => h) (Or.inr ⟨by rfl, rfl⟩) ?_ ?_
         rotate_left
         ·simp only [Act.put, qA, qB, qC, i64_w, i32_w]
          rfl
         refine pure_ (i := 5) (N := some 65) (v := undef) (a' := ?_) #[bT,bT,bT,bT,bT,bT,bF,bF,bF,bF,bF,bF] rfl rfl (any_of HT_.out (by kernel_rfl)) (fun _ _ _ h => h) (Or.inr ⟨by rfl, rfl⟩) ?_ ?_
         rotate_left
         ·simp only [Act.put, qA, qB, qC, i64_w, i32_w]
          rfl
         refine pure_ (i := 6) (N := some 66) (v := undef) (a' := ?_) #[bT,bT,bT,bT,bT,bT,bT,bF,bF,bF,bF,bF] rfl rfl (any_of HT_.out (by kernel_rfl)) (fun _ _ _ h => h) (Or.inr ⟨by rfl, rfl⟩) ?_ ?_
         rotate_left
         ·simp only [Act.put, qA, qB, qC, i64_w, i32_w]
          rfl
         refine pure_ (i := 7) (N := some 67) (v := undef) (a' := ?_) #[bT,bT,bT,bT,bT,bT,bT,bT,bF,bF,bF,bF] rfl rfl (any_of HT_.out (by kernel_rfl)) (fun _ _ _ h => h) (Or.inr ⟨by rfl, rfl⟩) ?_ ?_
         rotate_left
         ·simp only [Act.put, qA, qB, qC, i64_w, i32_w]
          rfl
         refine pure_ (i := 8) (N := some 68) (v := undef) (a' := ?_) #[bT,bT,bT,bT,bT,bT,bT,bT,bT,bF,bF,bF] rfl rfl (any_of HT_.out (by kernel_rfl)) (fun _ _ _ h => h) (Or.inr ⟨by rfl, rfl⟩) ?_ ?_
         rotate_left
         ·simp only [Act.put, qA, qB, qC, i64_w, i32_w]
          rfl
         refine pure_ (i := 9) (N := some 69) (v := undef) (a' := ?_) #[bT,bT,bT,bT,bT,bT,bT,bT,bT,bT,bF,bF] rfl rfl (any_of HT_.out (by kernel_rfl)) (fun _ _ _ h => h) (Or.inr ⟨by rfl, rfl⟩) ?_ ?_
         rotate_left
         ·simp only [Act.put, qA, qB, qC, i64_w, i32_w]
          rfl
         refine pure_ (i := 10) (N := some 70) (v := ?_) (a' := ?_) #[bT,bT,bT,bT,bT,bT,bT,bT,bT,bT,bT,bF] rfl rfl (any_of HT_.out (by kernel_rfl)) (fun _ _ _ h => h) (Or.inl ⟨by rfl, ?_⟩) ?_ ?_
         rotate_left
         ·intro w'
          go_simp
          with_reducible rfl
         rotate_left
         ·simp only [Act.put, qA, qB, qC, i64_w, i32_w]
          rfl
         refine pure_ (i := 11) (N := some 12) (v := ?_) (a' := ?_) #[bT,bT,bT,bT,bT,bT,bT,bT,bT,bT,bT,bT] rfl rfl (any_of HT_.out (by kernel_rfl)) (fun _ _ _ h => h) (Or.inl ⟨by rfl, ?_⟩) ?_ ?_
         rotate_left
         ·intro w'
          go_simp
          with_reducible rfl
         rotate_left
         ·simp only [Act.put, qA, qB, qC, i64_w, i32_w]
          rfl
         refine done_ (done_of HT_.out (by kernel_rfl)) ?_
         try go_wp2
         go_roundg k3
         case measure => have := HJ4.out; have := HK2.out; have := HK3.out; omega
         case rel => exact ⟨(true), (wrap64 (x13_3 + 1)), (by first | rfl | (simp; done) | (simp [*]; done)), (by first | rfl | (simp; done) | (simp [*]; done)), H', ⟨by have := HJ4.out; have := HK2.out; have := HK3.out; omega⟩, ⟨by (with_reducible repeat (first | refine blk_drewN ?_ _ | refine blk_drew ?_ | refine blk_alloc ?_ _)); exact BK500.out⟩, ⟨by (with_reducible repeat (first | refine blk_drewN ?_ _ | refine blk_drew ?_ | refine blk_alloc ?_ _)); exact BK505.out⟩, ⟨lb2 HB.out GE500.out GE505.out⟩⟩
        replace c24 := Bool.eq_false_iff.mpr c24
        subst c24
        have H1 : (if 0 ≤ x13_3 then ((entailref22_Inside.f k3 l0_0 l0_1 l0_2 l0_3 l0_4 l0_5 a1 (rdOf ByteArray.empty ((rd_T34 l0_4 x10_2).f3) x13_3)).bind fun t508 => (entailref22_May.l1 k3 a1 a2 a3 x9_2 x10_2 t508 (wrap64 (x13_3 + 1)) l0_0 l0_1 l0_2 l0_3 l0_4 l0_5 ((rd_T34 l0_4 x10_2).f0) ((rd_T34 l0_4 x10_2).f1) ((rd_T34 l0_4 x10_2).f2) ((rd_T34 l0_4 x10_2).f3) ((rd_T34 l0_4 x10_2).f4) ((rd_T34 l0_4 x10_2).f5))) else (none)) = some r := by rw [if_neg (show ¬ (false = true) by decide)] at H; exact H
        clear H
        have H := H1
        clear H1
        by_cases c28 : 0 ≤ x13_3
        rotate_left
        ·rw [if_neg c28] at H
         exact absurd H (by simp)
        rw [if_pos c28] at H
        have c28b0 : decide (0 ≤ x13_3) = true := decide_eq_true c28
        clear c28
        replace H := Option.bind_eq_some_iff.mp H
        obtain ⟨t508, A290, H⟩ := H
        have A29 := Aside0.mk A290
        clear A290
        have H' := Aside0.mk H
        clear H
        have hnb30 := NB505_500.out
        have hnc30 := NB500_505.out
        have hcz31_0 : wr.cell? ⟨gb505, 0, none⟩ = some (.string ((rd_T34 l0_4 x10_2).f0)) := (blk_cell BK505.out 0).trans rfl
        have hcz31_1 : wr.cell? ⟨gb505, 1, none⟩ = some (.bool ((rd_T34 l0_4 x10_2).f1)) := (blk_cell BK505.out 1).trans rfl
        have hcz31_2 : wr.cell? ⟨gb505, 2, none⟩ = some (.slice A504_2 ((rd_T34 l0_4 x10_2).f2).length c504_2) := (blk_cell BK505.out 2).trans rfl
        have hcz31_3 : wr.cell? ⟨gb505, 3, none⟩ = some (.slice A504_3 ((rd_T34 l0_4 x10_2).f3).length c504_3) := (blk_cell BK505.out 3).trans rfl
        have hcz31_4 : wr.cell? ⟨gb505, 4, none⟩ = some (.slice A504_4 ((rd_T34 l0_4 x10_2).f4).length c504_4) := (blk_cell BK505.out 4).trans rfl
        have hcz31_5 : wr.cell? ⟨gb505, 5, none⟩ = some (.slice A504_5 ((rd_T34 l0_4 x10_2).f5).length c504_5) := (blk_cell BK505.out 5).trans rfl
        have hfz31_0 := blk_frozen BK505.out 0
        have hfz31_1 := blk_frozen BK505.out 1
        have hfz31_2 := blk_frozen BK505.out 2
        have hfz31_3 := blk_frozen BK505.out 3
        have hfz31_4 := blk_frozen BK505.out 4
        have hfz31_5 := blk_frozen BK505.out 5
        try go_wp2
        replace BK500 := Aside0.mk (blk_drew BK500.out)
        replace BK505 := Aside0.mk (blk_drew BK505.out)
        replace HB := Aside0.mk (below_drew1 HB.out)
        have p507 : 0 ≤ (x13_3 : Int) := of_decide_eq_true (by first | (with_reducible assumption) | assumption)
        have q507 : x13_3 < (((rd_T34 l0_4 x10_2).f3).length : Int) := of_decide_eq_true (by first | (with_reducible assumption) | assumption)
        obtain ⟨ad507, e507, hx507_0⟩ := Kd.at_string HR504_3.out x13_3 p507 q507
        have hw507_0 := hx507_0
        cases e507
        replace hx507_0 := (HB.out.cell (World.block_lt_of_cell? w _ hx507_0)).trans hx507_0
        replace p507 := eq_true p507
        replace q507 := eq_true q507
        refine start_ (n := 12) (S := fun w' => w'.cell? ⟨gb500, 0, none⟩ = some (.slice A0_0 l0_0.length c0_0) ∧ w'.cell? ⟨gb500, 1, none⟩ = some (.slice A0_1 l0_1.length c0_1) ∧ w'.cell? ⟨gb500, 2, none⟩ = some (.slice A0_2 l0_2.length c0_2) ∧ w'.cell? ⟨gb500, 3, none⟩ = some (.slice A0_3 l0_3.length c0_3) ∧ w'.cell? ⟨gb500, 4, none⟩ = some (.slice (some ad504) l0_4.length c0_4) ∧ w'.cell? ⟨gb500, 5, none⟩ = some (.slice A0_5 l0_5.length c0_5) ∧ w'.cell? ⟨gb505, 0, none⟩ = some (.string ((rd_T34 l0_4 x10_2).f0)) ∧ w'.cell? ⟨gb505, 1, none⟩ = some (.bool ((rd_T34 l0_4 x10_2).f1)) ∧ w'.cell? ⟨gb505, 2, none⟩ = some (.slice A504_2 ((rd_T34 l0_4 x10_2).f2).length c504_2) ∧ w'.cell? ⟨gb505, 3, none⟩ = some (.slice (some ad507) ((rd_T34 l0_4 x10_2).f3).length c504_3) ∧ w'.cell? ⟨gb505, 4, none⟩ = some (.slice A504_4 ((rd_T34 l0_4 x10_2).f4).length c504_4) ∧ w'.cell? ⟨gb505, 5, none⟩ = some (.slice A504_5 ((rd_T34 l0_4 x10_2).f5).length c504_5) ∧ w'.cell? (ad507.add (x13_3).toNat) = some (.string (rdOf ByteArray.empty ((rd_T34 l0_4 x10_2).f3) x13_3))) (ds := []) #[bF,bF,bF,bF,bF,bF,bF,bF,bF,bF,bF,bF] (by kernel_rfl) rfl rfl ⟨(blk_cell BK500.out 0).trans rfl, (blk_cell BK500.out 1).trans rfl, (blk_cell BK500.out 2).trans rfl, (blk_cell BK500.out 3).trans rfl, (blk_cell BK500.out 4).trans rfl, (blk_cell BK500.out 5).trans rfl, (blk_cell BK505.out 0).trans rfl, (blk_cell BK505.out 1).trans rfl, (blk_cell BK505.out 2).trans rfl, (blk_cell BK505.out 3).trans rfl, (blk_cell BK505.out 4).trans rfl, (blk_cell BK505.out 5).trans rfl, ((HB.out.cell (World.block_lt_of_cell? w _ hw507_0)).trans hw507_0)⟩ (fun hHeld => ?_); refine with_tabW entailref22_May.tab12 entailref22_May.bits12 (fun HT_ HW_ => ?_)
        generalize wr.drew = w32 at BK500 BK505 HB hx507_0 hHeld ⊢
        refine pure_ (i := 0) (N := some 60) (v := ?_) (a' := ?_) #[bT,bF,bF,bF,bF,bF,bF,bF,bF,bF,bF,bF] rfl rfl (any_of HT_.out (by kernel_rfl)) (fun _ _ _ h => h) (Or.inl ⟨by rfl, ?_⟩) ?_ ?_
        rotate_left
        ·intro w'
         go_simp
         with_reducible rfl
        rotate_left
        ·simp only [Act.put, qA, qB, qC, i64_w, i32_w]
         rfl
        refine pure_ (i := 1) (N := some 61) (v := ?_) (a' := ?_) #[bT,bT,bF,bF,bF,bF,bF,bF,bF,bF,bF,bF] rfl rfl (any_of HT_.out (by kernel_rfl)) (fun _ _ _ h => h) (Or.inl ⟨by rfl, ?_⟩) ?_ ?_
        rotate_left
        ·intro w'
         go_simp
         with_reducible rfl
        rotate_left
        ·simp only [Act.put, qA, qB, qC, i64_w, i32_w]
         rfl
        refine pure_ (i := 3) (N := some 63) (v := ?_) (a' := ?_) #[bT,bT,bF,bT,bF,bF,bF,bF,bF,bF,bF,bF] rfl rfl (any_of HT_.out (by kernel_rfl)) (fun _ _ _ h => h) (Or.inl ⟨by rfl, ?_⟩) ?_ ?_
        rotate_left
        ·intro w'
         go_simp
         with_reducible rfl
        rotate_left
        ·simp only [Act.put, qA, qB, qC, i64_w, i32_w]
         rfl
        refine pure_ (i := 4) (N := some 64) (v := ?_) (a' := ?_) #[bT,bT,bF,bT,bT,bF,bF,bF,bF,bF,bF,bF] rfl rfl (any_of HT_.out (by kernel_rfl)) (fun _ _ _ h => h) (Or.inl ⟨by rfl, ?_⟩) ?_ ?_
        rotate_left
        ·intro w'
         go_simp
         with_reducible rfl
        rotate_left
        ·simp only [Act.put, qA, qB, qC, i64_w, i32_w]
         rfl
        refine pure_ (i := 6) (N := some 66) (v := ?_) (a' := ?_) #[bT,bT,bF,bT,bT,bF,bT,bF,bF,bF,bF,bF] rfl rfl (any_of HT_.out (by kernel_rfl)) (fun _ _ _ h => h) (Or.inl ⟨by rfl, ?_⟩) ?_ ?_
        rotate_left
        ·intro w'
         go_simp
         with_reducible rfl
        rotate_left
        ·simp only [Act.put, qA, qB, qC, i64_w, i32_w]
         rfl
        refine take_ (i := 2) (N := some 62) (v := ?_) (a' := ?_) #[bT,bT,bT,bT,bT,bF,bT,bF,bF,bF,bF,bF] rfl rfl (take_ofW HT_.out HW_.out (by kernel_rfl)) (fun _ _ _ h => h) (Or.inl ⟨by rfl, ?_⟩) hHeld ?_ ?_
        rotate_left
        ·rintro w' ⟨s0, s1, s2, s3, s4, s5, s6, s7, s8, s9, s10, s11, s12⟩
         go_simp
         with_reducible rfl
        rotate_left
        ·simp only [Act.put, qA, qB, qC, i64_w, i32_w]
         rfl
        refine take_ (i := 5) (N := some 65) (v := ?_) (a' := ?_) #[bT,bT,bT,bT,bT,bT,bT,bF,bF,bF,bF,bF] rfl rfl (take_ofW HT_.out HW_.out (by kernel_rfl)) (fun _ _ _ h => h) (Or.inl ⟨by rfl, ?_⟩) hHeld ?_ ?_
        rotate_left
        ·rintro w' ⟨s0, s1, s2, s3, s4, s5, s6, s7, s8, s9, s10, s11, s12⟩
         go_simp
         with_reducible rfl
        rotate_left
        ·simp only [Act.put, qA, qB, qC, i64_w, i32_w]
         rfl
        refine pure_ (i := 7) (N := some 67) (v := ?_) (a' := ?_) #[bT,bT,bT,bT,bT,bT,bT,bT,bF,bF,bF,bF] rfl rfl (any_of HT_.out (by kernel_rfl)) (fun _ _ _ h => h) (Or.inl ⟨by rfl, ?_⟩) ?_ ?_
        rotate_left
        ·intro w'
         go_simp
         with_reducible rfl
        rotate_left
        ·simp only [Act.put, qA, qB, qC, i64_w, i32_w]
         rfl
        refine take_ (i := 8) (N := some 68) (v := ?_) (a' := ?_) #[bT,bT,bT,bT,bT,bT,bT,bT,bT,bF,bF,bF] rfl rfl (take_ofW HT_.out HW_.out (by kernel_rfl)) (fun _ _ _ h => h) (Or.inl ⟨by rfl, ?_⟩) hHeld ?_ ?_
        rotate_left
        ·rintro w' ⟨s0, s1, s2, s3, s4, s5, s6, s7, s8, s9, s10, s11, s12⟩
         go_simp
         with_reducible rfl
        rotate_left
        ·simp only [Act.put, qA, qB, qC, i64_w, i32_w]
         rfl
        refine one_ (i := 9) (N := some 69) #[bT,bT,bT,bT,bT,bT,bT,bT,bT,bT,bF,bF] rfl rfl (one_of HT_.out (by kernel_rfl)) (by decide) (fun K hK => ?_)
        refine goes_ Try.func19 (by kernel_rfl) rfl #[.agg #[.slice A0_0 l0_0.length c0_0, .slice A0_1 l0_1.length c0_1, .slice A0_2 l0_2.length c0_2, .slice A0_3 l0_3.length c0_3, .slice (some ad504) l0_4.length c0_4, .slice A0_5 l0_5.length c0_5], .string a1, .string (rdOf ByteArray.empty ((rd_T34 l0_4 x10_2).f3) x13_3)] (by rfl) rfl rfl (by (try simp only [List.map_toArray, List.map_cons, List.map_nil]); first | done | rfl | (simp only [List.length_drop, List.length_take]; rfl)) ?_
        with_reducible refine (entailref22_Inside.calls k3 _ _ l0_0 _ _ l0_1 _ _ l0_2 _ _ l0_3 _ _ l0_4 _ _ l0_5 a1 (rdOf ByteArray.empty ((rd_T34 l0_4 x10_2).f3) x13_3) t508 _ ?side1 ?side2 ?side3 ?side4 ?side5 ?side6 ?side7 ?side8 ?side9 ?side10 ?side11 ?side12 A29.out).mono ?_
        (case side1 => exact lC (Kd.C_below HR0_0.out HB.out))
        (case side2 => exact HC0_0.out)
        (case side3 => exact lC (Kd.C_below HR0_1.out HB.out))
        (case side4 => exact HC0_1.out)
        (case side5 => exact lC (Kd.C_below HR0_2.out HB.out))
        (case side6 => exact HC0_2.out)
        (case side7 => exact lC (Kd.C_below HR0_3.out HB.out))
        (case side8 => exact HC0_3.out)
        (case side9 => exact lC (Kd.C_below HR0_4.out HB.out))
        (case side10 => exact HC0_4.out)
        (case side11 => exact lC (Kd.C_below HR0_5.out HB.out))
        (case side12 => exact HC0_5.out)
        rintro e w33 ⟨rfl, hb⟩
        refine ⟨_, rfl, ?_⟩
        replace BK500 := Aside0.mk (blk_below (g := gb500) (o := .cells #[.slice A0_0 l0_0.length c0_0, .slice A0_1 l0_1.length c0_1, .slice A0_2 l0_2.length c0_2, .slice A0_3 l0_3.length c0_3, .slice (some ad504) l0_4.length c0_4, .slice A0_5 l0_5.length c0_5] 28 (0, 0)) (lk BK500.out) hb)
        replace BK505 := Aside0.mk (blk_below (g := gb505) (o := .cells #[.string ((rd_T34 l0_4 x10_2).f0), .bool ((rd_T34 l0_4 x10_2).f1), .slice A504_2 ((rd_T34 l0_4 x10_2).f2).length c504_2, .slice (some ad507) ((rd_T34 l0_4 x10_2).f3).length c504_3, .slice A504_4 ((rd_T34 l0_4 x10_2).f4).length c504_4, .slice A504_5 ((rd_T34 l0_4 x10_2).f5).length c504_5] 34 (0, 0)) (lk BK505.out) hb)
        replace HB := Aside0.mk (below_step (lb2 HB.out GE500.out GE505.out) hb)
        (try clear hb)
        (try clear hb2)
        (try clear hk)
        (try clear hi)
        refine hK.out _ _ ⟨(blk_cell BK500.out 0).trans rfl, (blk_cell BK500.out 1).trans rfl, (blk_cell BK500.out 2).trans rfl, (blk_cell BK500.out 3).trans rfl, (blk_cell BK500.out 4).trans rfl, (blk_cell BK500.out 5).trans rfl, (blk_cell BK505.out 0).trans rfl, (blk_cell BK505.out 1).trans rfl, (blk_cell BK505.out 2).trans rfl, (blk_cell BK505.out 3).trans rfl, (blk_cell BK505.out 4).trans rfl, (blk_cell BK505.out 5).trans rfl, ((HB.out.cell (World.block_lt_of_cell? w _ hw507_0)).trans hw507_0)⟩ (fun hHeld => ?_)
        clear hK K
        refine norm_ (a' := ?_) ?_ ?_
        rotate_left
        ·show Act.put _ (some 69) _ = _
         simp only [Act.put, qA, qB, qC, i64_w, i32_w]
         rfl
        refine pure_ (i := 10) (N := some 70) (v := ?_) (a' := ?_) #[bT,bT,bT,bT,bT,bT,bT,bT,bT,bT,bT,bF] rfl rfl (any_of HT_.out (by kernel_rfl)) (fun _ _ _ h => h) (Or.inl ⟨by rfl, ?_⟩) ?_ ?_
        rotate_left
        ·intro w'
         go_simp
         with_reducible rfl
        rotate_left
        ·simp only [Act.put, qA, qB, qC, i64_w, i32_w]
         rfl
        refine pure_ (i := 11) (N := some 12) (v := ?_) (a' := ?_) #[bT,bT,bT,bT,bT,bT,bT,bT,bT,bT,bT,bT] rfl rfl (any_of HT_.out (by kernel_rfl)) (fun _ _ _ h => h) (Or.inl ⟨by rfl, ?_⟩) ?_ ?_
        rotate_left
        ·intro w'
         go_simp
         with_reducible rfl
        rotate_left
        ·simp only [Act.put, qA, qB, qC, i64_w, i32_w]
         rfl
        refine done_ (done_of HT_.out (by kernel_rfl)) ?_
        try go_wp2
        go_roundg k3
        case measure => have := HJ4.out; have := HK2.out; have := HK3.out; omega
        case rel => exact ⟨(t508), (wrap64 (x13_3 + 1)), (by first | rfl | (simp; done) | (simp [*]; done)), (by first | rfl | (simp; done) | (simp [*]; done)), H', ⟨by have := HJ4.out; have := HK2.out; have := HK3.out; omega⟩, ⟨by (with_reducible repeat (first | refine blk_drewN ?_ _ | refine blk_drew ?_ | refine blk_alloc ?_ _)); exact BK500.out⟩, ⟨by (with_reducible repeat (first | refine blk_drewN ?_ _ | refine blk_drew ?_ | refine blk_alloc ?_ _)); exact BK505.out⟩, ⟨lb2 HB.out GE500.out GE505.out⟩⟩
       rw [if_neg c23] at H
       have c23b0 : decide (x13_3 < (((rd_T34 l0_4 x10_2).f3).length : Int)) = false := decide_eq_false c23
       clear c23
       have HC34 := Aside0.mk H
       clear H
       have hnb35 := NB505_500.out
       have hnc35 := NB500_505.out
       have hcz36_0 : wr.cell? ⟨gb505, 0, none⟩ = some (.string ((rd_T34 l0_4 x10_2).f0)) := (blk_cell BK505.out 0).trans rfl
       have hcz36_1 : wr.cell? ⟨gb505, 1, none⟩ = some (.bool ((rd_T34 l0_4 x10_2).f1)) := (blk_cell BK505.out 1).trans rfl
       have hcz36_2 : wr.cell? ⟨gb505, 2, none⟩ = some (.slice A504_2 ((rd_T34 l0_4 x10_2).f2).length c504_2) := (blk_cell BK505.out 2).trans rfl
       have hcz36_3 : wr.cell? ⟨gb505, 3, none⟩ = some (.slice A504_3 ((rd_T34 l0_4 x10_2).f3).length c504_3) := (blk_cell BK505.out 3).trans rfl
       have hcz36_4 : wr.cell? ⟨gb505, 4, none⟩ = some (.slice A504_4 ((rd_T34 l0_4 x10_2).f4).length c504_4) := (blk_cell BK505.out 4).trans rfl
       have hcz36_5 : wr.cell? ⟨gb505, 5, none⟩ = some (.slice A504_5 ((rd_T34 l0_4 x10_2).f5).length c504_5) := (blk_cell BK505.out 5).trans rfl
       have hfz36_0 := blk_frozen BK505.out 0
       have hfz36_1 := blk_frozen BK505.out 1
       have hfz36_2 := blk_frozen BK505.out 2
       have hfz36_3 := blk_frozen BK505.out 3
       have hfz36_4 := blk_frozen BK505.out 4
       have hfz36_5 := blk_frozen BK505.out 5
       go_upto_region 13 with (fail)
       go_cut [86] (fun v86 wc => ∃ (kq : Nat) (x86_33 : Bool), v86 = .bool x86_33 ∧ Aside0 (entailref22_May.j3 kq a1 a2 a3 x9_2 x10_2 x86_33 l0_0 l0_1 l0_2 l0_3 l0_4 l0_5 ((rd_T34 l0_4 x10_2).f0) ((rd_T34 l0_4 x10_2).f1) ((rd_T34 l0_4 x10_2).f2) ((rd_T34 l0_4 x10_2).f3) ((rd_T34 l0_4 x10_2).f4) ((rd_T34 l0_4 x10_2).f5) = some r) ∧ Aside0 (kq ≤ k3) ∧ Aside0 (wc.heap[gb500]? = some (.cells #[(.slice A0_0 l0_0.length c0_0), (.slice A0_1 l0_1.length c0_1), (.slice A0_2 l0_2.length c0_2), (.slice A0_3 l0_3.length c0_3), (.slice (some ad504) l0_4.length c0_4), (.slice A0_5 l0_5.length c0_5)] 28 (0, 0))) ∧ Aside0 (wc.heap[gb505]? = some (.cells #[.string ((rd_T34 l0_4 x10_2).f0), .bool ((rd_T34 l0_4 x10_2).f1), (.slice A504_2 ((rd_T34 l0_4 x10_2).f2).length c504_2), (.slice A504_3 ((rd_T34 l0_4 x10_2).f3).length c504_3), (.slice A504_4 ((rd_T34 l0_4 x10_2).f4).length c504_4), (.slice A504_5 ((rd_T34 l0_4 x10_2).f5).length c504_5)] 34 (0, 0))) ∧ Aside0 (Below w.heap.size w wc))
       case first =>
        have H := HC34.out
        clear HC34
        by_cases c37 : x12_3 = true
        rotate_left
        ·replace c37 := Bool.eq_false_iff.mpr c37
         subst c37
         have H1 : (entailref22_May.j3 k3 a1 a2 a3 x9_2 x10_2 true l0_0 l0_1 l0_2 l0_3 l0_4 l0_5 ((rd_T34 l0_4 x10_2).f0) ((rd_T34 l0_4 x10_2).f1) ((rd_T34 l0_4 x10_2).f2) ((rd_T34 l0_4 x10_2).f3) ((rd_T34 l0_4 x10_2).f4) ((rd_T34 l0_4 x10_2).f5)) = some r := by rw [if_neg (show ¬ (false = true) by decide)] at H; exact H
         clear H
         have H := H1
         clear H1
         have H' := Aside0.mk H
         clear H
         go_wp2
         go_meet
         case rel => exact ⟨_, (true), (by first | rfl | (simp; done) | (simp [*]; done)), H', ⟨by have := HJ4.out; have := HK2.out; have := HK3.out; first | omega | exact Nat.le_refl _⟩, ⟨by (with_reducible repeat (first | refine blk_drewN ?_ _ | refine blk_drew ?_ | refine blk_alloc ?_ _)); exact BK500.out⟩, ⟨by (with_reducible repeat (first | refine blk_drewN ?_ _ | refine blk_drew ?_ | refine blk_alloc ?_ _)); exact BK505.out⟩, ⟨lb2 HB.out GE500.out GE505.out⟩⟩
        subst c37
        have H1 : ((entailref22_matches.f k3 ((rd_T34 l0_4 x10_2).f4) a2).bind fun t509 => (if t509 = true then ((entailref22_matches.f k3 ((rd_T34 l0_4 x10_2).f5) a3).bind fun t510 => (entailref22_May.j3 k3 a1 a2 a3 x9_2 x10_2 (!t510) l0_0 l0_1 l0_2 l0_3 l0_4 l0_5 ((rd_T34 l0_4 x10_2).f0) ((rd_T34 l0_4 x10_2).f1) ((rd_T34 l0_4 x10_2).f2) ((rd_T34 l0_4 x10_2).f3) ((rd_T34 l0_4 x10_2).f4) ((rd_T34 l0_4 x10_2).f5))) else (entailref22_May.j3 k3 a1 a2 a3 x9_2 x10_2 true l0_0 l0_1 l0_2 l0_3 l0_4 l0_5 ((rd_T34 l0_4 x10_2).f0) ((rd_T34 l0_4 x10_2).f1) ((rd_T34 l0_4 x10_2).f2) ((rd_T34 l0_4 x10_2).f3) ((rd_T34 l0_4 x10_2).f4) ((rd_T34 l0_4 x10_2).f5)))) = some r := by rw [if_pos rfl] at H; exact H
        clear H
        have H := H1
        clear H1
        replace H := Option.bind_eq_some_iff.mp H
        obtain ⟨t509, A380, H⟩ := H
        have A38 := Aside0.mk A380
        clear A380
        by_cases c39 : t509 = true
        rotate_left
        ·replace c39 := Bool.eq_false_iff.mpr c39
         subst c39
         have H1 : (entailref22_May.j3 k3 a1 a2 a3 x9_2 x10_2 true l0_0 l0_1 l0_2 l0_3 l0_4 l0_5 ((rd_T34 l0_4 x10_2).f0) ((rd_T34 l0_4 x10_2).f1) ((rd_T34 l0_4 x10_2).f2) ((rd_T34 l0_4 x10_2).f3) ((rd_T34 l0_4 x10_2).f4) ((rd_T34 l0_4 x10_2).f5)) = some r := by rw [if_neg (show ¬ (false = true) by decide)] at H; exact H
         clear H
         have H := H1
         clear H1
         have H' := Aside0.mk H
         clear H
         have hnb43 := NB505_500.out
         have hnc43 := NB500_505.out
         have hcz44_0 : wr.cell? ⟨gb505, 0, none⟩ = some (.string ((rd_T34 l0_4 x10_2).f0)) := (blk_cell BK505.out 0).trans rfl
         have hcz44_1 : wr.cell? ⟨gb505, 1, none⟩ = some (.bool ((rd_T34 l0_4 x10_2).f1)) := (blk_cell BK505.out 1).trans rfl
         have hcz44_2 : wr.cell? ⟨gb505, 2, none⟩ = some (.slice A504_2 ((rd_T34 l0_4 x10_2).f2).length c504_2) := (blk_cell BK505.out 2).trans rfl
         have hcz44_3 : wr.cell? ⟨gb505, 3, none⟩ = some (.slice A504_3 ((rd_T34 l0_4 x10_2).f3).length c504_3) := (blk_cell BK505.out 3).trans rfl
         have hcz44_4 : wr.cell? ⟨gb505, 4, none⟩ = some (.slice A504_4 ((rd_T34 l0_4 x10_2).f4).length c504_4) := (blk_cell BK505.out 4).trans rfl
         have hcz44_5 : wr.cell? ⟨gb505, 5, none⟩ = some (.slice A504_5 ((rd_T34 l0_4 x10_2).f5).length c504_5) := (blk_cell BK505.out 5).trans rfl
         have hfz44_0 := blk_frozen BK505.out 0
         have hfz44_1 := blk_frozen BK505.out 1
         have hfz44_2 := blk_frozen BK505.out 2
         have hfz44_3 := blk_frozen BK505.out 3
         have hfz44_4 := blk_frozen BK505.out 4
         have hfz44_5 := blk_frozen BK505.out 5
         go_wp2_with (first | (go_at_call 33; (with_reducible refine (entailref22_matches.calls k3 _ _ ((rd_T34 l0_4 x10_2).f4) a2 false _ ?side1 ?side2 A38.out).mono ?_); (case side1 => exact lC (Kd.C_below HR504_4.out HB.out)); (case side2 => exact HC504_4.out); rintro e w' ⟨rfl, ⟨nd, rfl⟩⟩))
         go_meet
         case rel => exact ⟨_, (true), (by first | rfl | (simp; done) | (simp [*]; done)), H', ⟨by have := HJ4.out; have := HK2.out; have := HK3.out; first | omega | exact Nat.le_refl _⟩, ⟨by (with_reducible repeat (first | refine blk_drewN ?_ _ | refine blk_drew ?_ | refine blk_alloc ?_ _)); exact BK500.out⟩, ⟨by (with_reducible repeat (first | refine blk_drewN ?_ _ | refine blk_drew ?_ | refine blk_alloc ?_ _)); exact BK505.out⟩, ⟨lb2 HB.out GE500.out GE505.out⟩⟩
        subst c39
        have H1 : ((entailref22_matches.f k3 ((rd_T34 l0_4 x10_2).f5) a3).bind fun t510 => (entailref22_May.j3 k3 a1 a2 a3 x9_2 x10_2 (!t510) l0_0 l0_1 l0_2 l0_3 l0_4 l0_5 ((rd_T34 l0_4 x10_2).f0) ((rd_T34 l0_4 x10_2).f1) ((rd_T34 l0_4 x10_2).f2) ((rd_T34 l0_4 x10_2).f3) ((rd_T34 l0_4 x10_2).f4) ((rd_T34 l0_4 x10_2).f5))) = some r := by rw [if_pos rfl] at H; exact H
        clear H
        have H := H1
        clear H1
        replace H := Option.bind_eq_some_iff.mp H
        obtain ⟨t510, A400, H⟩ := H
        have A40 := Aside0.mk A400
        clear A400
        have H' := Aside0.mk H
        clear H
        have hnb41 := NB505_500.out
        have hnc41 := NB500_505.out
        have hcz42_0 : wr.cell? ⟨gb505, 0, none⟩ = some (.string ((rd_T34 l0_4 x10_2).f0)) := (blk_cell BK505.out 0).trans rfl
        have hcz42_1 : wr.cell? ⟨gb505, 1, none⟩ = some (.bool ((rd_T34 l0_4 x10_2).f1)) := (blk_cell BK505.out 1).trans rfl
        have hcz42_2 : wr.cell? ⟨gb505, 2, none⟩ = some (.slice A504_2 ((rd_T34 l0_4 x10_2).f2).length c504_2) := (blk_cell BK505.out 2).trans rfl
        have hcz42_3 : wr.cell? ⟨gb505, 3, none⟩ = some (.slice A504_3 ((rd_T34 l0_4 x10_2).f3).length c504_3) := (blk_cell BK505.out 3).trans rfl
        have hcz42_4 : wr.cell? ⟨gb505, 4, none⟩ = some (.slice A504_4 ((rd_T34 l0_4 x10_2).f4).length c504_4) := (blk_cell BK505.out 4).trans rfl
        have hcz42_5 : wr.cell? ⟨gb505, 5, none⟩ = some (.slice A504_5 ((rd_T34 l0_4 x10_2).f5).length c504_5) := (blk_cell BK505.out 5).trans rfl
        have hfz42_0 := blk_frozen BK505.out 0
        have hfz42_1 := blk_frozen BK505.out 1
        have hfz42_2 := blk_frozen BK505.out 2
        have hfz42_3 := blk_frozen BK505.out 3
        have hfz42_4 := blk_frozen BK505.out 4
        have hfz42_5 := blk_frozen BK505.out 5
        go_wp2_with (first | (go_at_call 33; (with_reducible refine (entailref22_matches.calls k3 _ _ ((rd_T34 l0_4 x10_2).f4) a2 true _ ?side1 ?side2 A38.out).mono ?_); (case side1 => exact lC (Kd.C_below HR504_4.out HB.out)); (case side2 => exact HC504_4.out); rintro e w' ⟨rfl, ⟨nd, rfl⟩⟩) | (go_at_call 33; (with_reducible refine (entailref22_matches.calls k3 _ _ ((rd_T34 l0_4 x10_2).f5) a3 t510 _ ?side1 ?side2 A40.out).mono ?_); (case side1 => exact lC (Kd.C_below HR504_5.out (lb2 HB.out GE500.out GE505.out))); (case side2 => exact HC504_5.out); rintro e w' ⟨rfl, ⟨nd, rfl⟩⟩))
        go_meet
        case rel => exact ⟨_, (!t510), (by first | rfl | (simp; done) | (simp [*]; done)), H', ⟨by have := HJ4.out; have := HK2.out; have := HK3.out; first | omega | exact Nat.le_refl _⟩, ⟨by (with_reducible repeat (first | refine blk_drewN ?_ _ | refine blk_drew ?_ | refine blk_alloc ?_ _)); exact BK500.out⟩, ⟨by (with_reducible repeat (first | refine blk_drewN ?_ _ | refine blk_drew ?_ | refine blk_alloc ?_ _)); exact BK505.out⟩, ⟨lb2 HB.out GE500.out GE505.out⟩⟩
       case rest =>
        clear HC34
        try clear c1
        try clear c2
        try clear p2
        try clear c3
        try clear c4
        try clear c5
        try clear p5
        try clear q5
        try clear hx5
        try clear p6
        try clear c8
        try clear c10
        try clear c15
        try clear c16
        try clear c16b0
        try clear c17
        try clear c17b0
        try clear c18
        try clear c19
        try clear c21
        try clear c23
        try clear c23b0
        try clear c24
        try clear c25
        try clear c28
        try clear c28b0
        try clear c30
        try clear c34
        try clear c35
        try clear c37
        try clear c39
        try clear c41
        try clear c43
        try clear hcz12_0
        try clear hcz12_1
        try clear hcz12_2
        try clear hcz12_3
        try clear hcz12_4
        try clear hcz12_5
        try clear hcz13_0
        try clear hcz13_1
        try clear hcz13_2
        try clear hcz13_3
        try clear hcz13_4
        try clear hcz13_5
        try clear hcz14_0
        try clear hcz14_1
        try clear hcz14_2
        try clear hcz14_3
        try clear hcz14_4
        try clear hcz14_5
        try clear hcz19_0
        try clear hcz19_1
        try clear hcz19_2
        try clear hcz19_3
        try clear hcz19_4
        try clear hcz19_5
        try clear hcz22_0
        try clear hcz22_1
        try clear hcz22_2
        try clear hcz22_3
        try clear hcz22_4
        try clear hcz22_5
        try clear hcz26_0
        try clear hcz26_1
        try clear hcz26_2
        try clear hcz26_3
        try clear hcz26_4
        try clear hcz26_5
        try clear hcz31_0
        try clear hcz31_1
        try clear hcz31_2
        try clear hcz31_3
        try clear hcz31_4
        try clear hcz31_5
        try clear hcz36_0
        try clear hcz36_1
        try clear hcz36_2
        try clear hcz36_3
        try clear hcz36_4
        try clear hcz36_5
        try clear hcz42_0
        try clear hcz42_1
        try clear hcz42_2
        try clear hcz42_3
        try clear hcz42_4
        try clear hcz42_5
        try clear hcz44_0
        try clear hcz44_1
        try clear hcz44_2
        try clear hcz44_3
        try clear hcz44_4
        try clear hcz44_5
        try clear hfz12_0
        try clear hfz12_1
        try clear hfz12_2
        try clear hfz12_3
        try clear hfz12_4
        try clear hfz12_5
        try clear hfz13_0
        try clear hfz13_1
        try clear hfz13_2
        try clear hfz13_3
        try clear hfz13_4
        try clear hfz13_5
        try clear hfz14_0
        try clear hfz14_1
        try clear hfz14_2
        try clear hfz14_3
        try clear hfz14_4
        try clear hfz14_5
        try clear hfz19_0
        try clear hfz19_1
        try clear hfz19_2
        try clear hfz19_3
        try clear hfz19_4
        try clear hfz19_5
        try clear hfz22_0
        try clear hfz22_1
        try clear hfz22_2
        try clear hfz22_3
        try clear hfz22_4
        try clear hfz22_5
        try clear hfz26_0
        try clear hfz26_1
        try clear hfz26_2
        try clear hfz26_3
        try clear hfz26_4
        try clear hfz26_5
        try clear hfz31_0
        try clear hfz31_1
        try clear hfz31_2
        try clear hfz31_3
        try clear hfz31_4
        try clear hfz31_5
        try clear hfz36_0
        try clear hfz36_1
        try clear hfz36_2
        try clear hfz36_3
        try clear hfz36_4
        try clear hfz36_5
        try clear hfz42_0
        try clear hfz42_1
        try clear hfz42_2
        try clear hfz42_3
        try clear hfz42_4
        try clear hfz42_5
        try clear hfz44_0
        try clear hfz44_1
        try clear hfz44_2
        try clear hfz44_3
        try clear hfz44_4
        try clear hfz44_5
        try clear hx504_0
        try clear hx504_1
        try clear hx504_2
        try clear hx504_3
        try clear hx504_4
        try clear hx504_5
        try clear hx507_0
        try clear p2
        try clear p5
        try clear p504
        try clear p507
        try clear q5
        try clear q504
        try clear q507
        obtain ⟨kq, x86_33, rfl, HA, HJ33, BK500, BK505, HB⟩ := hcut
        cases kq with
        | zero => exact absurd HA.out (by simp [entailref22_May.j3])
        | succ kj33 =>
         have H := HA.out
         clear HA
         simp only [entailref22_May.j3] at H
         by_cases c45 : x86_33 = true
         ·subst c45
          have H1 : (entailref22_May.l0 kj33 a1 a2 a3 x9_2 (wrap64 (x10_2 + 1)) l0_0 l0_1 l0_2 l0_3 l0_4 l0_5) = some r := by rw [if_pos rfl] at H; exact H
          clear H
          have H := H1
          clear H1
          have H' := Aside0.mk H
          clear H
          go_wp2
          go_roundg kj33
          case measure => have := HJ4.out; have := HK2.out; have := HK3.out; have := HJ33.out; omega
          case rel => exact ⟨(x9_2), (wrap64 (x10_2 + 1)), (by first | rfl | (simp; done) | (simp [*]; done)), (by first | rfl | (simp; done) | (simp [*]; done)), H', ⟨by have := HJ4.out; have := HK2.out; have := HK3.out; have := HJ33.out; omega⟩, ⟨by (with_reducible repeat (first | refine blk_drewN ?_ _ | refine blk_drew ?_ | refine blk_alloc ?_ _)); exact BK500.out⟩, ⟨lb2 HB.out GE500.out GE505.out⟩⟩
         replace c45 := Bool.eq_false_iff.mpr c45
         subst c45
         have H1 : (if ((rd_T34 l0_4 x10_2).f1) = true then (some false) else (entailref22_May.l0 kj33 a1 a2 a3 true (wrap64 (x10_2 + 1)) l0_0 l0_1 l0_2 l0_3 l0_4 l0_5)) = some r := by rw [if_neg (show ¬ (false = true) by decide)] at H; exact H
         clear H
         have H := H1
         clear H1
         by_cases c46 : ((rd_T34 l0_4 x10_2).f1) = true
         ·rw [if_pos c46] at H
          have c46b0 : ((rd_T34 l0_4 x10_2).f1) = true := c46
          clear c46
          obtain rfl := Option.some.inj H
          have hnb47 := NB505_500.out
          have hnc47 := NB500_505.out
          have hcz48_0 : wc.cell? ⟨gb505, 0, none⟩ = some (.string ((rd_T34 l0_4 x10_2).f0)) := (blk_cell BK505.out 0).trans rfl
          have hcz48_1 : wc.cell? ⟨gb505, 1, none⟩ = some (.bool ((rd_T34 l0_4 x10_2).f1)) := (blk_cell BK505.out 1).trans rfl
          have hcz48_2 : wc.cell? ⟨gb505, 2, none⟩ = some (.slice A504_2 ((rd_T34 l0_4 x10_2).f2).length c504_2) := (blk_cell BK505.out 2).trans rfl
          have hcz48_3 : wc.cell? ⟨gb505, 3, none⟩ = some (.slice A504_3 ((rd_T34 l0_4 x10_2).f3).length c504_3) := (blk_cell BK505.out 3).trans rfl
          have hcz48_4 : wc.cell? ⟨gb505, 4, none⟩ = some (.slice A504_4 ((rd_T34 l0_4 x10_2).f4).length c504_4) := (blk_cell BK505.out 4).trans rfl
          have hcz48_5 : wc.cell? ⟨gb505, 5, none⟩ = some (.slice A504_5 ((rd_T34 l0_4 x10_2).f5).length c504_5) := (blk_cell BK505.out 5).trans rfl
          have hfz48_0 := blk_frozen BK505.out 0
          have hfz48_1 := blk_frozen BK505.out 1
          have hfz48_2 := blk_frozen BK505.out 2
          have hfz48_3 := blk_frozen BK505.out 3
          have hfz48_4 := blk_frozen BK505.out 4
          have hfz48_5 := blk_frozen BK505.out 5
          go_wp2
          go_ret
          exact ⟨by first | rfl | (simp [errW_none, errW_some] <;> rfl) | (simp [*, errW_none, errW_some] <;> rfl), lb2 HB.out GE500.out GE505.out⟩
         rw [if_neg c46] at H
         have c46b0 : ((rd_T34 l0_4 x10_2).f1) = false := by simpa using c46
         clear c46
         have H' := Aside0.mk H
         clear H
         have hnb49 := NB505_500.out
         have hnc49 := NB500_505.out
         have hcz50_0 : wc.cell? ⟨gb505, 0, none⟩ = some (.string ((rd_T34 l0_4 x10_2).f0)) := (blk_cell BK505.out 0).trans rfl
         have hcz50_1 : wc.cell? ⟨gb505, 1, none⟩ = some (.bool ((rd_T34 l0_4 x10_2).f1)) := (blk_cell BK505.out 1).trans rfl
         have hcz50_2 : wc.cell? ⟨gb505, 2, none⟩ = some (.slice A504_2 ((rd_T34 l0_4 x10_2).f2).length c504_2) := (blk_cell BK505.out 2).trans rfl
         have hcz50_3 : wc.cell? ⟨gb505, 3, none⟩ = some (.slice A504_3 ((rd_T34 l0_4 x10_2).f3).length c504_3) := (blk_cell BK505.out 3).trans rfl
         have hcz50_4 : wc.cell? ⟨gb505, 4, none⟩ = some (.slice A504_4 ((rd_T34 l0_4 x10_2).f4).length c504_4) := (blk_cell BK505.out 4).trans rfl
         have hcz50_5 : wc.cell? ⟨gb505, 5, none⟩ = some (.slice A504_5 ((rd_T34 l0_4 x10_2).f5).length c504_5) := (blk_cell BK505.out 5).trans rfl
         have hfz50_0 := blk_frozen BK505.out 0
         have hfz50_1 := blk_frozen BK505.out 1
         have hfz50_2 := blk_frozen BK505.out 2
         have hfz50_3 := blk_frozen BK505.out 3
         have hfz50_4 := blk_frozen BK505.out 4
         have hfz50_5 := blk_frozen BK505.out 5
         go_wp2
         go_roundg kj33
         case measure => have := HJ4.out; have := HK2.out; have := HK3.out; have := HJ33.out; omega
         case rel => exact ⟨(true), (wrap64 (x10_2 + 1)), (by first | rfl | (simp; done) | (simp [*]; done)), (by first | rfl | (simp; done) | (simp [*]; done)), H', ⟨by have := HJ4.out; have := HK2.out; have := HK3.out; have := HJ33.out; omega⟩, ⟨by (with_reducible repeat (first | refine blk_drewN ?_ _ | refine blk_drew ?_ | refine blk_alloc ?_ _)); exact BK500.out⟩, ⟨lb2 HB.out GE500.out GE505.out⟩⟩

end Go.Proofs.Ytppndhbeglcioaa.GA
