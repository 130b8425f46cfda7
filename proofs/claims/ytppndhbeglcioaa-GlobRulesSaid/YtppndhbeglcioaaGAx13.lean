-- Written by gprint.py, a program of this session's: the kit's printer over contracts that were proved by hand. Lean checks it.
import Derived.Test.YtppndhbeglcioaaCutB
import Derived.Test.YtppndhbeglcioaaGAx2
import Derived.Test.YtppndhbeglcioaaGAx11
import Derived.Test.YtppndhbeglcioaaGAx12
namespace Go.Proofs.Ytppndhbeglcioaa.GA
open Go.RowKit Go.Proofs.YtppndhbeglcioaaW.PrintWords Go.Proofs.YtppndhbeglcioaaW.PrintLast Go.Proofs.YtppndhbeglcioaaW.PrintMore
attribute [local go_sem] max2_int min2_int max_two min_two max_three min_three max_four min_four   -- for this text's walks alone
set_option linter.unusedVariables false
set_option linter.unusedSimpArgs false

/-! ### glob_May: function 9 -/
mutual
def glob_May.j0 : Nat → ByteArray → ByteArray → ByteArray → Bool → List ByteArray → List ByteArray → List ByteArray → List (S36) → List (S34) → List (S51) → Option (Bool)
  | 0, _, _, _, _, _, _, _, _, _, _ => none
  | k + 1, x1, x2, x3, x30, x116000, x116001, x116002, x116003, x116004, x116005 => if x30 = true then (some false) else (glob_May.l0 k x1 x2 x3 false x116004 (x116004.length : Int) 0 x116000 x116001 x116002 x116003 x116004 x116005)
def glob_May.l0 : Nat → ByteArray → ByteArray → ByteArray → Bool → List (S34) → Int → Int → List ByteArray → List ByteArray → List ByteArray → List (S36) → List (S34) → List (S51) → Option (Bool)
  | 0, _, _, _, _, _, _, _, _, _, _, _, _, _ => none
  | k + 1, x1, x2, x3, x9, x32, x33, x34, x116000, x116001, x116002, x116003, x116004, x116005 => if x34 < x33 then (if 0 ≤ x34 then (if x34 < (x32.length : Int) then ((glob_bears.f k x116000 x116001 x116002 x116003 x116004 x116005 ((rd_T34 x32 x34).f0) ((rd_T34 x32 x34).f1) ((rd_T34 x32 x34).f2) ((rd_T34 x32 x34).f3) ((rd_T34 x32 x34).f4) ((rd_T34 x32 x34).f5) x1 x2 x3).bind fun t121 => (if t121 = true then (if (rd_T34 x32 x34).f1 = true then (some false) else (glob_May.l0 k x1 x2 x3 true x32 x33 (wrap64 (x34 + 1)) x116000 x116001 x116002 x116003 x116004 x116005)) else (glob_May.l0 k x1 x2 x3 x9 x32 x33 (wrap64 (x34 + 1)) x116000 x116001 x116002 x116003 x116004 x116005))) else (none)) else (none)) else (if x9 = true then ((glob_bounded.f k x116000 x116001 x116002 x116003 x116004 x116005 x1 x2 x3).bind fun t122 => (some t122)) else (some false))
end
def glob_May.f (k : Nat) (l0_0 : List ByteArray) (l0_1 : List ByteArray) (l0_2 : List ByteArray) (l0_3 : List (S36)) (l0_4 : List (S34)) (l0_5 : List (S51)) (a1 : ByteArray) (a2 : ByteArray) (a3 : ByteArray) : Option (Bool) := (slices_Contains_string_string.f k l0_0 a1).bind fun t116 => (if t116 = true then ((slices_Contains_string_string.f k l0_1 a2).bind fun t117 => (if t117 = true then ((slices_Contains_string_string.f k l0_2 a3).bind fun t118 => (glob_May.j0 k a1 a2 a3 (!t118) l0_0 l0_1 l0_2 l0_3 l0_4 l0_5)) else (glob_May.j0 k a1 a2 a3 true l0_0 l0_1 l0_2 l0_3 l0_4 l0_5))) else (glob_May.j0 k a1 a2 a3 true l0_0 l0_1 l0_2 l0_3 l0_4 l0_5))
theorem glob_May.mono_l : ∀ k, (∀ y0 y1 y2 y3 y4 y5 y6 y7 y8 y9, LeO (glob_May.j0 k y0 y1 y2 y3 y4 y5 y6 y7 y8 y9) (glob_May.j0 (k + 1) y0 y1 y2 y3 y4 y5 y6 y7 y8 y9)) ∧ (∀ y0 y1 y2 y3 y4 y5 y6 y7 y8 y9 y10 y11 y12, LeO (glob_May.l0 k y0 y1 y2 y3 y4 y5 y6 y7 y8 y9 y10 y11 y12) (glob_May.l0 (k + 1) y0 y1 y2 y3 y4 y5 y6 y7 y8 y9 y10 y11 y12))
  | 0 => ⟨fun _ _ _ _ _ _ _ _ _ _ r h => by simp [glob_May.j0] at h, fun _ _ _ _ _ _ _ _ _ _ _ _ _ r h => by simp [glob_May.l0] at h⟩
  | k + 1 => by
    obtain ⟨ih0, ih1⟩ := glob_May.mono_l k
    refine ⟨?_, ?_⟩
    · intro y0 y1 y2 y3 y4 y5 y6 y7 y8 y9
      unfold glob_May.j0
      repeat' first
      | (with_reducible exact ih0 _ _ _ _ _ _ _ _ _ _)
      | (with_reducible exact ih1 _ _ _ _ _ _ _ _ _ _ _ _ _)
      | (with_reducible exact glob_bears.mono _ _ _ _ _ _ _ _ _ _ _ _ _ _ _ _)
      | (with_reducible exact glob_bounded.mono _ _ _ _ _ _ _ _ _ _)
      | (with_reducible exact slices_Contains_string_string.mono _ _ _)
      | (with_reducible exact LeO.refl _)
      | (with_reducible exact LeO.none _)
      | (with_reducible refine LeO.ite ?_ ?_)
      | (with_reducible refine LeO.bind ?_ (fun _ => ?_))
      | exact ih0 _ _ _ _ _ _ _ _ _ _
      | exact ih1 _ _ _ _ _ _ _ _ _ _ _ _ _
      | exact glob_bears.mono _ _ _ _ _ _ _ _ _ _ _ _ _ _ _ _
      | exact glob_bounded.mono _ _ _ _ _ _ _ _ _ _
      | exact slices_Contains_string_string.mono _ _ _
      | exact LeO.none _
      | refine LeO.ite ?_ ?_
      | refine LeO.bind ?_ (fun _ => ?_)
    · intro y0 y1 y2 y3 y4 y5 y6 y7 y8 y9 y10 y11 y12
      unfold glob_May.l0
      repeat' first
      | (with_reducible exact ih0 _ _ _ _ _ _ _ _ _ _)
      | (with_reducible exact ih1 _ _ _ _ _ _ _ _ _ _ _ _ _)
      | (with_reducible exact glob_bears.mono _ _ _ _ _ _ _ _ _ _ _ _ _ _ _ _)
      | (with_reducible exact glob_bounded.mono _ _ _ _ _ _ _ _ _ _)
      | (with_reducible exact slices_Contains_string_string.mono _ _ _)
      | (with_reducible exact LeO.refl _)
      | (with_reducible exact LeO.none _)
      | (with_reducible refine LeO.ite ?_ ?_)
      | (with_reducible refine LeO.bind ?_ (fun _ => ?_))
      | exact ih0 _ _ _ _ _ _ _ _ _ _
      | exact ih1 _ _ _ _ _ _ _ _ _ _ _ _ _
      | exact glob_bears.mono _ _ _ _ _ _ _ _ _ _ _ _ _ _ _ _
      | exact glob_bounded.mono _ _ _ _ _ _ _ _ _ _
      | exact slices_Contains_string_string.mono _ _ _
      | exact LeO.none _
      | refine LeO.ite ?_ ?_
      | refine LeO.bind ?_ (fun _ => ?_)
theorem glob_May.mono : ∀ a0 a1 a2 a3 a4 a5 a6 a7 a8 k, LeO (glob_May.f k a0 a1 a2 a3 a4 a5 a6 a7 a8) (glob_May.f (k + 1) a0 a1 a2 a3 a4 a5 a6 a7 a8) := by
  intro a0 a1 a2 a3 a4 a5 a6 a7 a8 k
  obtain ⟨ih0, ih1⟩ := glob_May.mono_l k
  unfold glob_May.f
  repeat' first
      | (with_reducible exact ih0 _ _ _ _ _ _ _ _ _ _)
      | (with_reducible exact ih1 _ _ _ _ _ _ _ _ _ _ _ _ _)
      | (with_reducible exact glob_bears.mono _ _ _ _ _ _ _ _ _ _ _ _ _ _ _ _)
      | (with_reducible exact glob_bounded.mono _ _ _ _ _ _ _ _ _ _)
      | (with_reducible exact slices_Contains_string_string.mono _ _ _)
      | (with_reducible exact LeO.refl _)
      | (with_reducible exact LeO.none _)
      | (with_reducible refine LeO.ite ?_ ?_)
      | (with_reducible refine LeO.bind ?_ (fun _ => ?_))
      | exact ih0 _ _ _ _ _ _ _ _ _ _
      | exact ih1 _ _ _ _ _ _ _ _ _ _ _ _ _
      | exact glob_bears.mono _ _ _ _ _ _ _ _ _ _ _ _ _ _ _ _
      | exact glob_bounded.mono _ _ _ _ _ _ _ _ _ _
      | exact slices_Contains_string_string.mono _ _ _
      | exact LeO.none _
      | refine LeO.ite ?_ ?_
      | refine LeO.bind ?_ (fun _ => ?_)
set_option maxHeartbeats 8000000 in
set_option maxRecDepth 100000 in
theorem glob_May.calls (k : Nat) (A0_0 : Option Addr) (c0_0 : Nat) (l0_0 : List ByteArray) (A0_1 : Option Addr) (c0_1 : Nat) (l0_1 : List ByteArray) (A0_2 : Option Addr) (c0_2 : Nat) (l0_2 : List ByteArray) (A0_3 : Option Addr) (c0_3 : Nat) (l0_3 : List (S36)) (A0_4 : Option Addr) (c0_4 : Nat) (l0_4 : List (S34)) (A0_5 : Option Addr) (c0_5 : Nat) (l0_5 : List (S51)) (a1 : ByteArray) (a2 : ByteArray) (a3 : ByteArray) (r : Bool) (w : World) (hr0_0 : Kd.C Kd.string w A0_0 l0_0.length l0_0) (hc0_0 : l0_0.length ≤ c0_0) (hr0_1 : Kd.C Kd.string w A0_1 l0_1.length l0_1) (hc0_1 : l0_1.length ≤ c0_1) (hr0_2 : Kd.C Kd.string w A0_2 l0_2.length l0_2) (hc0_2 : l0_2.length ≤ c0_2) (hr0_3 : Kd.C k36 w A0_3 l0_3.length l0_3) (hc0_3 : l0_3.length ≤ c0_3) (hr0_4 : Kd.C k34 w A0_4 l0_4.length l0_4) (hc0_4 : l0_4.length ≤ c0_4) (hr0_5 : Kd.C k51 w A0_5 l0_5.length l0_5) (hc0_5 : l0_5.length ≤ c0_5) (h : glob_May.f k l0_0 l0_1 l0_2 l0_3 l0_4 l0_5 a1 a2 a3 = some r) :
  Calls Try.prog 9 #[.agg #[.slice A0_0 l0_0.length c0_0, .slice A0_1 l0_1.length c0_1, .slice A0_2 l0_2.length c0_2, .slice A0_3 l0_3.length c0_3, .slice A0_4 l0_4.length c0_4, .slice A0_5 l0_5.length c0_5], .string a1, .string a2, .string a3] w fun e w' => e = .returned (.bool r) ∧ Below w.heap.size w w' := by
 have hu28 := Try.underlying28
 have hu34 := Try.underlying34
 have HR0_0 := Aside0.mk hr0_0
 have HC0_0 := Aside0.mk hc0_0
 clear hr0_0 hc0_0
 have HR0_1 := Aside0.mk hr0_1
 have HC0_1 := Aside0.mk hc0_1
 clear hr0_1 hc0_1
 have HR0_2 := Aside0.mk hr0_2
 have HC0_2 := Aside0.mk hc0_2
 clear hr0_2 hc0_2
 have HR0_3 := Aside0.mk hr0_3
 have HC0_3 := Aside0.mk hc0_3
 clear hr0_3 hc0_3
 have HR0_4 := Aside0.mk hr0_4
 have HC0_4 := Aside0.mk hc0_4
 clear hr0_4 hc0_4
 have HR0_5 := Aside0.mk hr0_5
 have HC0_5 := Aside0.mk hc0_5
 clear hr0_5 hc0_5
 have HB := Aside0.mk (Below.refl w.heap.size w)
 have H : ((slices_Contains_string_string.f k l0_0 a1).bind fun t116 => (if t116 = true then ((slices_Contains_string_string.f k l0_1 a2).bind fun t117 => (if t117 = true then ((slices_Contains_string_string.f k l0_2 a3).bind fun t118 => (glob_May.j0 k a1 a2 a3 (!t118) l0_0 l0_1 l0_2 l0_3 l0_4 l0_5)) else (glob_May.j0 k a1 a2 a3 true l0_0 l0_1 l0_2 l0_3 l0_4 l0_5))) else (glob_May.j0 k a1 a2 a3 true l0_0 l0_1 l0_2 l0_3 l0_4 l0_5))) = some r := h
 clear h
 have HC5 := Aside0.mk H
 clear H
 go_enter Try.func9, Try.ntmps9
 go_upto_region 1 with (first | ((with_reducible refine gate_dst (N := 4) rfl ?_); refine box_event ?hg (N := 4) ?hd (cs := #[.slice A0_0 l0_0.length c0_0, .slice A0_1 l0_1.length c0_1, .slice A0_2 l0_2.length c0_2, .slice A0_3 l0_3.length c0_3, .slice A0_4 l0_4.length c0_4, .slice A0_5 l0_5.length c0_5]) (t := 28) ?hr ?_; (case hd => rfl); (case hg => rfl); (case hr => first | (go_simp; done) | (go_simp; rfl)); intro gb115 hg w6 hbox hb; have BK115 := Aside0.mk (hbox); have GW115 := Aside0.mk ((by rw [hg]; exact (below_size (lb HB.out)) : w.heap.size ≤ gb115)); have GE115 := Aside0.mk ((by rw [hg]; exact (below_size (lb HB.out)) : w.heap.size ≤ gb115)); replace HB := Aside0.mk (below_step (lb HB.out) hb); clear hb hbox hg))
 (try simp only [Act.put, List.setIfInBounds_toArray, List.set_cons_zero, List.set_cons_succ])
 go_cut [30] (fun v30 wc => ∃ (kq : Nat) (x30_4 : Bool), v30 = .bool x30_4 ∧ Aside0 (glob_May.j0 kq a1 a2 a3 x30_4 l0_0 l0_1 l0_2 l0_3 l0_4 l0_5 = some r) ∧ Aside0 (kq ≤ k) ∧ Aside0 (wc.heap[gb115]? = some (.cells #[(.slice A0_0 l0_0.length c0_0), (.slice A0_1 l0_1.length c0_1), (.slice A0_2 l0_2.length c0_2), (.slice A0_3 l0_3.length c0_3), (.slice A0_4 l0_4.length c0_4), (.slice A0_5 l0_5.length c0_5)] 28 (0, 0))) ∧ Aside0 (Below w.heap.size w wc))
 case first =>
  have H := HC5.out
  clear HC5
  replace H := Option.bind_eq_some_iff.mp H
  obtain ⟨t116, A70, H⟩ := H
  have A7 := Aside0.mk A70
  clear A70
  by_cases c8 : t116 = true
  rotate_left
  ·replace c8 := Bool.eq_false_iff.mpr c8
   subst c8
   have H1 : (glob_May.j0 k a1 a2 a3 true l0_0 l0_1 l0_2 l0_3 l0_4 l0_5) = some r := by rw [if_neg (show ¬ (false = true) by decide)] at H; exact H
   clear H
   have H := H1
   clear H1
   have H' := Aside0.mk H
   clear H
   have hcz14_0 : w6.cell? ⟨gb115, 0, none⟩ = some (.slice A0_0 l0_0.length c0_0) := (blk_cell BK115.out 0).trans rfl
   have hcz14_1 : w6.cell? ⟨gb115, 1, none⟩ = some (.slice A0_1 l0_1.length c0_1) := (blk_cell BK115.out 1).trans rfl
   have hcz14_2 : w6.cell? ⟨gb115, 2, none⟩ = some (.slice A0_2 l0_2.length c0_2) := (blk_cell BK115.out 2).trans rfl
   have hcz14_3 : w6.cell? ⟨gb115, 3, none⟩ = some (.slice A0_3 l0_3.length c0_3) := (blk_cell BK115.out 3).trans rfl
   have hcz14_4 : w6.cell? ⟨gb115, 4, none⟩ = some (.slice A0_4 l0_4.length c0_4) := (blk_cell BK115.out 4).trans rfl
   have hcz14_5 : w6.cell? ⟨gb115, 5, none⟩ = some (.slice A0_5 l0_5.length c0_5) := (blk_cell BK115.out 5).trans rfl
   have hfz14_0 := blk_frozen BK115.out 0
   have hfz14_1 := blk_frozen BK115.out 1
   have hfz14_2 := blk_frozen BK115.out 2
   have hfz14_3 := blk_frozen BK115.out 3
   have hfz14_4 := blk_frozen BK115.out 4
   have hfz14_5 := blk_frozen BK115.out 5
   go_wp2_with (first | ((with_reducible refine gate_callee (f := 23) rfl ?_); refine goesL_ (some 15) rfl rfl Try.func23 (by kernel_rfl) rfl #[.slice A0_0 l0_0.length c0_0, .string a1] rfl (by (try simp only [List.map_toArray, List.map_cons, List.map_nil]); first | done | rfl | (simp only [List.length_drop, List.length_take]; rfl)) ?_; (with_reducible refine (slices_Contains_string_string.calls k _ _ l0_0 a1 false _ ?side1 ?side2 A7.out).mono ?_); (case side1 => exact lC (Kd.C_below HR0_0.out HB.out)); (case side2 => exact HC0_0.out); rintro e w' ⟨rfl, ⟨nd, rfl⟩⟩; refine ⟨_, rfl, ?_⟩))
   go_meet
   case rel => exact ⟨_, (true), (by first | rfl | (simp; done) | (simp [*]; done)), H', ⟨by first | omega | exact Nat.le_refl _⟩, ⟨by (with_reducible repeat (first | refine blk_drewN ?_ _ | refine blk_drew ?_ | refine blk_alloc ?_ _)); exact BK115.out⟩, ⟨lb1 HB.out GE115.out⟩⟩
  subst c8
  have H1 : ((slices_Contains_string_string.f k l0_1 a2).bind fun t117 => (if t117 = true then ((slices_Contains_string_string.f k l0_2 a3).bind fun t118 => (glob_May.j0 k a1 a2 a3 (!t118) l0_0 l0_1 l0_2 l0_3 l0_4 l0_5)) else (glob_May.j0 k a1 a2 a3 true l0_0 l0_1 l0_2 l0_3 l0_4 l0_5))) = some r := by rw [if_pos rfl] at H; exact H
  clear H
  have H := H1
  clear H1
  replace H := Option.bind_eq_some_iff.mp H
  obtain ⟨t117, A90, H⟩ := H
  have A9 := Aside0.mk A90
  clear A90
  by_cases c10 : t117 = true
  rotate_left
  ·replace c10 := Bool.eq_false_iff.mpr c10
   subst c10
   have H1 : (glob_May.j0 k a1 a2 a3 true l0_0 l0_1 l0_2 l0_3 l0_4 l0_5) = some r := by rw [if_neg (show ¬ (false = true) by decide)] at H; exact H
   clear H
   have H := H1
   clear H1
   have H' := Aside0.mk H
   clear H
   have hcz13_0 : w6.cell? ⟨gb115, 0, none⟩ = some (.slice A0_0 l0_0.length c0_0) := (blk_cell BK115.out 0).trans rfl
   have hcz13_1 : w6.cell? ⟨gb115, 1, none⟩ = some (.slice A0_1 l0_1.length c0_1) := (blk_cell BK115.out 1).trans rfl
   have hcz13_2 : w6.cell? ⟨gb115, 2, none⟩ = some (.slice A0_2 l0_2.length c0_2) := (blk_cell BK115.out 2).trans rfl
   have hcz13_3 : w6.cell? ⟨gb115, 3, none⟩ = some (.slice A0_3 l0_3.length c0_3) := (blk_cell BK115.out 3).trans rfl
   have hcz13_4 : w6.cell? ⟨gb115, 4, none⟩ = some (.slice A0_4 l0_4.length c0_4) := (blk_cell BK115.out 4).trans rfl
   have hcz13_5 : w6.cell? ⟨gb115, 5, none⟩ = some (.slice A0_5 l0_5.length c0_5) := (blk_cell BK115.out 5).trans rfl
   have hfz13_0 := blk_frozen BK115.out 0
   have hfz13_1 := blk_frozen BK115.out 1
   have hfz13_2 := blk_frozen BK115.out 2
   have hfz13_3 := blk_frozen BK115.out 3
   have hfz13_4 := blk_frozen BK115.out 4
   have hfz13_5 := blk_frozen BK115.out 5
   go_wp2_with (first | ((with_reducible refine gate_callee (f := 23) rfl ?_); refine goesL_ (some 15) rfl rfl Try.func23 (by kernel_rfl) rfl #[.slice A0_0 l0_0.length c0_0, .string a1] rfl (by (try simp only [List.map_toArray, List.map_cons, List.map_nil]); first | done | rfl | (simp only [List.length_drop, List.length_take]; rfl)) ?_; (with_reducible refine (slices_Contains_string_string.calls k _ _ l0_0 a1 true _ ?side1 ?side2 A7.out).mono ?_); (case side1 => exact lC (Kd.C_below HR0_0.out HB.out)); (case side2 => exact HC0_0.out); rintro e w' ⟨rfl, ⟨nd, rfl⟩⟩; refine ⟨_, rfl, ?_⟩) | (go_at_call 23; (with_reducible refine (slices_Contains_string_string.calls k _ _ l0_1 a2 false _ ?side1 ?side2 A9.out).mono ?_); (case side1 => exact lC (Kd.C_below HR0_1.out (lb1 HB.out GE115.out))); (case side2 => exact HC0_1.out); rintro e w' ⟨rfl, ⟨nd, rfl⟩⟩))
   go_meet
   case rel => exact ⟨_, (true), (by first | rfl | (simp; done) | (simp [*]; done)), H', ⟨by first | omega | exact Nat.le_refl _⟩, ⟨by (with_reducible repeat (first | refine blk_drewN ?_ _ | refine blk_drew ?_ | refine blk_alloc ?_ _)); exact BK115.out⟩, ⟨lb1 HB.out GE115.out⟩⟩
  subst c10
  have H1 : ((slices_Contains_string_string.f k l0_2 a3).bind fun t118 => (glob_May.j0 k a1 a2 a3 (!t118) l0_0 l0_1 l0_2 l0_3 l0_4 l0_5)) = some r := by rw [if_pos rfl] at H; exact H
  clear H
  have H := H1
  clear H1
  replace H := Option.bind_eq_some_iff.mp H
  obtain ⟨t118, A110, H⟩ := H
  have A11 := Aside0.mk A110
  clear A110
  have H' := Aside0.mk H
  clear H
  have hcz12_0 : w6.cell? ⟨gb115, 0, none⟩ = some (.slice A0_0 l0_0.length c0_0) := (blk_cell BK115.out 0).trans rfl
  have hcz12_1 : w6.cell? ⟨gb115, 1, none⟩ = some (.slice A0_1 l0_1.length c0_1) := (blk_cell BK115.out 1).trans rfl
  have hcz12_2 : w6.cell? ⟨gb115, 2, none⟩ = some (.slice A0_2 l0_2.length c0_2) := (blk_cell BK115.out 2).trans rfl
  have hcz12_3 : w6.cell? ⟨gb115, 3, none⟩ = some (.slice A0_3 l0_3.length c0_3) := (blk_cell BK115.out 3).trans rfl
  have hcz12_4 : w6.cell? ⟨gb115, 4, none⟩ = some (.slice A0_4 l0_4.length c0_4) := (blk_cell BK115.out 4).trans rfl
  have hcz12_5 : w6.cell? ⟨gb115, 5, none⟩ = some (.slice A0_5 l0_5.length c0_5) := (blk_cell BK115.out 5).trans rfl
  have hfz12_0 := blk_frozen BK115.out 0
  have hfz12_1 := blk_frozen BK115.out 1
  have hfz12_2 := blk_frozen BK115.out 2
  have hfz12_3 := blk_frozen BK115.out 3
  have hfz12_4 := blk_frozen BK115.out 4
  have hfz12_5 := blk_frozen BK115.out 5
  go_wp2_with (first | ((with_reducible refine gate_callee (f := 23) rfl ?_); refine goesL_ (some 15) rfl rfl Try.func23 (by kernel_rfl) rfl #[.slice A0_0 l0_0.length c0_0, .string a1] rfl (by (try simp only [List.map_toArray, List.map_cons, List.map_nil]); first | done | rfl | (simp only [List.length_drop, List.length_take]; rfl)) ?_; (with_reducible refine (slices_Contains_string_string.calls k _ _ l0_0 a1 true _ ?side1 ?side2 A7.out).mono ?_); (case side1 => exact lC (Kd.C_below HR0_0.out HB.out)); (case side2 => exact HC0_0.out); rintro e w' ⟨rfl, ⟨nd, rfl⟩⟩; refine ⟨_, rfl, ?_⟩) | (go_at_call 23; (with_reducible refine (slices_Contains_string_string.calls k _ _ l0_1 a2 true _ ?side1 ?side2 A9.out).mono ?_); (case side1 => exact lC (Kd.C_below HR0_1.out (lb1 HB.out GE115.out))); (case side2 => exact HC0_1.out); rintro e w' ⟨rfl, ⟨nd, rfl⟩⟩) | (go_at_call 23; (with_reducible refine (slices_Contains_string_string.calls k _ _ l0_2 a3 t118 _ ?side1 ?side2 A11.out).mono ?_); (case side1 => exact lC (Kd.C_below HR0_2.out (lb1 HB.out GE115.out))); (case side2 => exact HC0_2.out); rintro e w' ⟨rfl, ⟨nd, rfl⟩⟩))
  go_meet
  case rel => exact ⟨_, (!t118), (by first | rfl | (simp; done) | (simp [*]; done)), H', ⟨by first | omega | exact Nat.le_refl _⟩, ⟨by (with_reducible repeat (first | refine blk_drewN ?_ _ | refine blk_drew ?_ | refine blk_alloc ?_ _)); exact BK115.out⟩, ⟨lb1 HB.out GE115.out⟩⟩
 case rest =>
  clear HC5
  try clear c1
  try clear c2
  try clear p2
  try clear c8
  try clear c9
  try clear c10
  try clear hcz12_0
  try clear hcz12_1
  try clear hcz12_2
  try clear hcz12_3
  try clear hcz12_4
  try clear hcz12_5
  try clear hcz13_0
  try clear hcz13_1
  try clear hcz13_2
  try clear hcz13_3
  try clear hcz13_4
  try clear hcz13_5
  try clear hcz14_0
  try clear hcz14_1
  try clear hcz14_2
  try clear hcz14_3
  try clear hcz14_4
  try clear hcz14_5
  try clear hfz12_0
  try clear hfz12_1
  try clear hfz12_2
  try clear hfz12_3
  try clear hfz12_4
  try clear hfz12_5
  try clear hfz13_0
  try clear hfz13_1
  try clear hfz13_2
  try clear hfz13_3
  try clear hfz13_4
  try clear hfz13_5
  try clear hfz14_0
  try clear hfz14_1
  try clear hfz14_2
  try clear hfz14_3
  try clear hfz14_4
  try clear hfz14_5
  obtain ⟨kq, x30_4, rfl, HA, HJ4, BK115, HB⟩ := hcut
  cases kq with
  | zero => exact absurd HA.out (by simp [glob_May.j0])
  | succ kj4 =>
   have H := HA.out
   clear HA
   simp only [glob_May.j0] at H
   by_cases c15 : x30_4 = true
   ·subst c15
    have H1 : (some false) = some r := by rw [if_pos rfl] at H; exact H
    clear H
    have H := H1
    clear H1
    obtain rfl := Option.some.inj H
    go_wp2
    go_ret
    exact ⟨by first | rfl | (simp [errW_none, errW_some] <;> rfl) | (simp [*, errW_none, errW_some] <;> rfl), lb1 HB.out GE115.out⟩
   replace c15 := Bool.eq_false_iff.mpr c15
   subst c15
   have H1 : (glob_May.l0 kj4 a1 a2 a3 false l0_4 (l0_4.length : Int) 0 l0_0 l0_1 l0_2 l0_3 l0_4 l0_5) = some r := by rw [if_neg (show ¬ (false = true) by decide)] at H; exact H
   clear H
   have H := H1
   clear H1
   have H' := Aside0.mk H
   clear H
   have hcz16_0 : wc.cell? ⟨gb115, 0, none⟩ = some (.slice A0_0 l0_0.length c0_0) := (blk_cell BK115.out 0).trans rfl
   have hcz16_1 : wc.cell? ⟨gb115, 1, none⟩ = some (.slice A0_1 l0_1.length c0_1) := (blk_cell BK115.out 1).trans rfl
   have hcz16_2 : wc.cell? ⟨gb115, 2, none⟩ = some (.slice A0_2 l0_2.length c0_2) := (blk_cell BK115.out 2).trans rfl
   have hcz16_3 : wc.cell? ⟨gb115, 3, none⟩ = some (.slice A0_3 l0_3.length c0_3) := (blk_cell BK115.out 3).trans rfl
   have hcz16_4 : wc.cell? ⟨gb115, 4, none⟩ = some (.slice A0_4 l0_4.length c0_4) := (blk_cell BK115.out 4).trans rfl
   have hcz16_5 : wc.cell? ⟨gb115, 5, none⟩ = some (.slice A0_5 l0_5.length c0_5) := (blk_cell BK115.out 5).trans rfl
   have hfz16_0 := blk_frozen BK115.out 0
   have hfz16_1 := blk_frozen BK115.out 1
   have hfz16_2 := blk_frozen BK115.out 2
   have hfz16_3 := blk_frozen BK115.out 3
   have hfz16_4 := blk_frozen BK115.out 4
   have hfz16_5 := blk_frozen BK115.out 5
   go_wp2
   go_loopg [9, 34] kj4 (fun kq v9 v34 w' => ∃ (x9_2 : Bool) (x34_2 : Int), v9 = .bool x9_2 ∧ v34 = .int .i64 x34_2 ∧ Aside0 (glob_May.l0 kq a1 a2 a3 x9_2 l0_4 (l0_4.length : Int) x34_2 l0_0 l0_1 l0_2 l0_3 l0_4 l0_5 = some r) ∧ Aside0 (kq ≤ kj4) ∧ Aside0 (w'.heap[gb115]? = some (.cells #[(.slice A0_0 l0_0.length c0_0), (.slice A0_1 l0_1.length c0_1), (.slice A0_2 l0_2.length c0_2), (.slice A0_3 l0_3.length c0_3), (.slice A0_4 l0_4.length c0_4), (.slice A0_5 l0_5.length c0_5)] 28 (0, 0))) ∧ Aside0 (Below w.heap.size w w'))
   case atStart => exact ⟨(false), (0), (by first | rfl | (simp; done) | (simp [*]; done)), (by first | rfl | (simp; done) | (simp [*]; done)), H', ⟨Nat.le_refl _⟩, ⟨by (with_reducible repeat (first | refine blk_drewN ?_ _ | refine blk_drew ?_ | refine blk_alloc ?_ _)); exact BK115.out⟩, ⟨lb1 HB.out GE115.out⟩⟩
   case round =>
    clear H'
    try clear c1
    try clear c2
    try clear p2
    try clear c8
    try clear c9
    try clear c10
    try clear c15
    try clear hcz12_0
    try clear hcz12_1
    try clear hcz12_2
    try clear hcz12_3
    try clear hcz12_4
    try clear hcz12_5
    try clear hcz13_0
    try clear hcz13_1
    try clear hcz13_2
    try clear hcz13_3
    try clear hcz13_4
    try clear hcz13_5
    try clear hcz14_0
    try clear hcz14_1
    try clear hcz14_2
    try clear hcz14_3
    try clear hcz14_4
    try clear hcz14_5
    try clear hcz16_0
    try clear hcz16_1
    try clear hcz16_2
    try clear hcz16_3
    try clear hcz16_4
    try clear hcz16_5
    try clear hfz12_0
    try clear hfz12_1
    try clear hfz12_2
    try clear hfz12_3
    try clear hfz12_4
    try clear hfz12_5
    try clear hfz13_0
    try clear hfz13_1
    try clear hfz13_2
    try clear hfz13_3
    try clear hfz13_4
    try clear hfz13_5
    try clear hfz14_0
    try clear hfz14_1
    try clear hfz14_2
    try clear hfz14_3
    try clear hfz14_4
    try clear hfz14_5
    try clear hfz16_0
    try clear hfz16_1
    try clear hfz16_2
    try clear hfz16_3
    try clear hfz16_4
    try clear hfz16_5
    try clear p2
    obtain ⟨x9_2, x34_2, rfl, rfl, HA, HK2, BK115, HB⟩ := hrel
    cases gk with
    | zero => exact absurd HA.out (by simp [glob_May.l0])
    | succ k2 =>
     have H := HA.out
     clear HA
     simp only [glob_May.l0] at H
     by_cases c17 : x34_2 < (l0_4.length : Int)
     rotate_left
     ·rw [if_neg c17] at H
      have c17b0 : decide (x34_2 < (l0_4.length : Int)) = false := decide_eq_false c17
      clear c17
      by_cases c41 : x9_2 = true
      rotate_left
      ·replace c41 := Bool.eq_false_iff.mpr c41
       subst c41
       have H1 : (some false) = some r := by rw [if_neg (show ¬ (false = true) by decide)] at H; exact H
       clear H
       have H := H1
       clear H1
       obtain rfl := Option.some.inj H
       go_wp2
       go_ret
       exact ⟨by first | rfl | (simp [errW_none, errW_some] <;> rfl) | (simp [*, errW_none, errW_some] <;> rfl), lb1 HB.out GE115.out⟩
      subst c41
      have H1 : ((glob_bounded.f k2 l0_0 l0_1 l0_2 l0_3 l0_4 l0_5 a1 a2 a3).bind fun t122 => (some t122)) = some r := by rw [if_pos rfl] at H; exact H
      clear H
      have H := H1
      clear H1
      replace H := Option.bind_eq_some_iff.mp H
      obtain ⟨t122, A420, H⟩ := H
      have A42 := Aside0.mk A420
      clear A420
      obtain rfl := Option.some.inj H
      have hcz43_0 : wr.cell? ⟨gb115, 0, none⟩ = some (.slice A0_0 l0_0.length c0_0) := (blk_cell BK115.out 0).trans rfl
      have hcz43_1 : wr.cell? ⟨gb115, 1, none⟩ = some (.slice A0_1 l0_1.length c0_1) := (blk_cell BK115.out 1).trans rfl
      have hcz43_2 : wr.cell? ⟨gb115, 2, none⟩ = some (.slice A0_2 l0_2.length c0_2) := (blk_cell BK115.out 2).trans rfl
      have hcz43_3 : wr.cell? ⟨gb115, 3, none⟩ = some (.slice A0_3 l0_3.length c0_3) := (blk_cell BK115.out 3).trans rfl
      have hcz43_4 : wr.cell? ⟨gb115, 4, none⟩ = some (.slice A0_4 l0_4.length c0_4) := (blk_cell BK115.out 4).trans rfl
      have hcz43_5 : wr.cell? ⟨gb115, 5, none⟩ = some (.slice A0_5 l0_5.length c0_5) := (blk_cell BK115.out 5).trans rfl
      have hfz43_0 := blk_frozen BK115.out 0
      have hfz43_1 := blk_frozen BK115.out 1
      have hfz43_2 := blk_frozen BK115.out 2
      have hfz43_3 := blk_frozen BK115.out 3
      have hfz43_4 := blk_frozen BK115.out 4
      have hfz43_5 := blk_frozen BK115.out 5
      go_wp2_with (first | (go_at_call 25; (with_reducible refine (glob_bounded.calls k2 _ _ l0_0 _ _ l0_1 _ _ l0_2 _ _ l0_3 _ _ l0_4 _ _ l0_5 a1 a2 a3 t122 _ ?side1 ?side2 ?side3 ?side4 ?side5 ?side6 ?side7 ?side8 ?side9 ?side10 ?side11 ?side12 A42.out).mono ?_); (case side1 => exact lC (Kd.C_below HR0_0.out HB.out)); (case side2 => exact HC0_0.out); (case side3 => exact lC (Kd.C_below HR0_1.out HB.out)); (case side4 => exact HC0_1.out); (case side5 => exact lC (Kd.C_below HR0_2.out HB.out)); (case side6 => exact HC0_2.out); (case side7 => exact lC (Kd.C_below HR0_3.out HB.out)); (case side8 => exact HC0_3.out); (case side9 => exact lC (Kd.C_below HR0_4.out HB.out)); (case side10 => exact HC0_4.out); (case side11 => exact lC (Kd.C_below HR0_5.out HB.out)); (case side12 => exact HC0_5.out); rintro e w44 ⟨rfl, hb⟩; replace BK115 := Aside0.mk (blk_below (g := gb115) (o := .cells #[.slice A0_0 l0_0.length c0_0, .slice A0_1 l0_1.length c0_1, .slice A0_2 l0_2.length c0_2, .slice A0_3 l0_3.length c0_3, .slice A0_4 l0_4.length c0_4, .slice A0_5 l0_5.length c0_5] 28 (0, 0)) (lk BK115.out) hb); replace HB := Aside0.mk (below_step (lb1 HB.out GE115.out) hb); (try clear hb); (try clear hb2); (try clear hk); (try clear hi)))
      go_ret
      exact ⟨by first | rfl | (simp [errW_none, errW_some] <;> rfl) | (simp [*, errW_none, errW_some] <;> rfl), lb1 HB.out GE115.out⟩
     rw [if_pos c17] at H
     have c17b0 : decide (x34_2 < (l0_4.length : Int)) = true := decide_eq_true c17
     clear c17
     by_cases c18 : 0 ≤ x34_2
     rotate_left
     ·rw [if_neg c18] at H
      exact absurd H (by simp)
     rw [if_pos c18] at H
     have c18b0 : decide (0 ≤ x34_2) = true := decide_eq_true c18
     clear c18
     by_cases c19 : x34_2 < (l0_4.length : Int)
     rotate_left
     ·rw [if_neg c19] at H
      exact absurd H (by simp)
     rw [if_pos c19] at H
     have c19b0 : decide (x34_2 < (l0_4.length : Int)) = true := decide_eq_true c19
     clear c19
     replace H := Option.bind_eq_some_iff.mp H
     obtain ⟨t121, A200, H⟩ := H
     have A20 := Aside0.mk A200
     clear A200
     by_cases c21 : t121 = true
     rotate_left
     ·replace c21 := Bool.eq_false_iff.mpr c21
      subst c21
      have H1 : (glob_May.l0 k2 a1 a2 a3 x9_2 l0_4 (l0_4.length : Int) (wrap64 (x34_2 + 1)) l0_0 l0_1 l0_2 l0_3 l0_4 l0_5) = some r := by rw [if_neg (show ¬ (false = true) by decide)] at H; exact H
      clear H
      have H := H1
      clear H1
      have H' := Aside0.mk H
      clear H
      have p119 : 0 ≤ (x34_2 : Int) := of_decide_eq_true (by first | (with_reducible assumption) | assumption)
      have q119 : x34_2 < (l0_4.length : Int) := of_decide_eq_true (by first | (with_reducible assumption) | assumption)
      obtain ⟨ad119, A119_2, c119_2, A119_3, c119_3, A119_4, c119_4, A119_5, c119_5, e119, hx119_0, hx119_1, hx119_2, hx119_3, hx119_4, hx119_5, hl119_2, hi119_2, hl119_3, hi119_3, hl119_4, hi119_4, hl119_5, hi119_5⟩ := at_T34 HR0_4.out x34_2 p119 q119
      cases e119
      replace hx119_0 := (HB.out.cell (World.block_lt_of_cell? w _ hx119_0)).trans hx119_0
      replace hx119_1 := (HB.out.cell (World.block_lt_of_cell? w _ hx119_1)).trans hx119_1
      replace hx119_2 := (HB.out.cell (World.block_lt_of_cell? w _ hx119_2)).trans hx119_2
      replace hx119_3 := (HB.out.cell (World.block_lt_of_cell? w _ hx119_3)).trans hx119_3
      replace hx119_4 := (HB.out.cell (World.block_lt_of_cell? w _ hx119_4)).trans hx119_4
      replace hx119_5 := (HB.out.cell (World.block_lt_of_cell? w _ hx119_5)).trans hx119_5
      have HR119_2 := Aside0.mk hi119_2
      have HC119_2 := Aside0.mk hl119_2
      clear hi119_2 hl119_2
      have HR119_3 := Aside0.mk hi119_3
      have HC119_3 := Aside0.mk hl119_3
      clear hi119_3 hl119_3
      have HR119_4 := Aside0.mk hi119_4
      have HC119_4 := Aside0.mk hl119_4
      clear hi119_4 hl119_4
      have HR119_5 := Aside0.mk hi119_5
      have HC119_5 := Aside0.mk hl119_5
      clear hi119_5 hl119_5
      replace p119 := eq_true p119
      replace q119 := eq_true q119
      go_wp2_with (first | ((with_reducible refine gate_dst (N := 11) rfl ?_); refine box_event ?hg (N := 11) ?hd (cs := #[.string (⟨#[]⟩ : ByteArray), .bool false, .slice none 0 0, .slice none 0 0, .slice none 0 0, .slice none 0 0]) (t := 34) ?hr ?_; (case hd => rfl); (case hg => rfl); (case hr => first | (go_simp; done) | (go_simp; rfl)); intro gb120 hg w36 hbox hb; have BK120 := Aside0.mk (hbox); have GW120 := Aside0.mk ((by rw [hg]; exact (below_size (lb1 HB.out GE115.out)) : w.heap.size ≤ gb120)); have GE120 := Aside0.mk ((by rw [hg]; exact (below_size (lb1 HB.out GE115.out)) : w.heap.size ≤ gb120)); replace HB := Aside0.mk (below_step (lb1 HB.out GE115.out) hb); have NB115_120 := Aside0.mk ((by rw [hg]; exact Nat.ne_of_lt (blk_lt (g := gb115) (o := .cells #[.slice A0_0 l0_0.length c0_0, .slice A0_1 l0_1.length c0_1, .slice A0_2 l0_2.length c0_2, .slice A0_3 l0_3.length c0_3, .slice (some ad119) l0_4.length c0_4, .slice A0_5 l0_5.length c0_5] 28 (0, 0)) (lk BK115.out)) : gb115 ≠ gb120)); have NB120_115 := Aside0.mk ((by rw [hg]; exact Nat.ne_of_gt (blk_lt (g := gb115) (o := .cells #[.slice A0_0 l0_0.length c0_0, .slice A0_1 l0_1.length c0_1, .slice A0_2 l0_2.length c0_2, .slice A0_3 l0_3.length c0_3, .slice (some ad119) l0_4.length c0_4, .slice A0_5 l0_5.length c0_5] 28 (0, 0)) (lk BK115.out)) : gb120 ≠ gb115)); replace BK115 := Aside0.mk (blk_below (g := gb115) (o := .cells #[.slice A0_0 l0_0.length c0_0, .slice A0_1 l0_1.length c0_1, .slice A0_2 l0_2.length c0_2, .slice A0_3 l0_3.length c0_3, .slice (some ad119) l0_4.length c0_4, .slice A0_5 l0_5.length c0_5] 28 (0, 0)) (lk BK115.out) hb); clear hb hbox hg; have hnb37 := NB120_115.out; have hnc37 := NB115_120.out; have hcz38_0 : w36.cell? ⟨gb120, 0, none⟩ = some (.string (⟨#[]⟩ : ByteArray)) := (blk_cell BK120.out 0).trans rfl; have hcz38_1 : w36.cell? ⟨gb120, 1, none⟩ = some (.bool false) := (blk_cell BK120.out 1).trans rfl; have hcz38_2 : w36.cell? ⟨gb120, 2, none⟩ = some (.slice none 0 0) := (blk_cell BK120.out 2).trans rfl; have hcz38_3 : w36.cell? ⟨gb120, 3, none⟩ = some (.slice none 0 0) := (blk_cell BK120.out 3).trans rfl; have hcz38_4 : w36.cell? ⟨gb120, 4, none⟩ = some (.slice none 0 0) := (blk_cell BK120.out 4).trans rfl; have hcz38_5 : w36.cell? ⟨gb120, 5, none⟩ = some (.slice none 0 0) := (blk_cell BK120.out 5).trans rfl; have hfz38_0 := blk_frozen BK120.out 0; have hfz38_1 := blk_frozen BK120.out 1; have hfz38_2 := blk_frozen BK120.out 2; have hfz38_3 := blk_frozen BK120.out 3; have hfz38_4 := blk_frozen BK120.out 4; have hfz38_5 := blk_frozen BK120.out 5; have hcz39_0 : w36.cell? ⟨gb115, 0, none⟩ = some (.slice A0_0 l0_0.length c0_0) := (blk_cell BK115.out 0).trans rfl; have hcz39_1 : w36.cell? ⟨gb115, 1, none⟩ = some (.slice A0_1 l0_1.length c0_1) := (blk_cell BK115.out 1).trans rfl; have hcz39_2 : w36.cell? ⟨gb115, 2, none⟩ = some (.slice A0_2 l0_2.length c0_2) := (blk_cell BK115.out 2).trans rfl; have hcz39_3 : w36.cell? ⟨gb115, 3, none⟩ = some (.slice A0_3 l0_3.length c0_3) := (blk_cell BK115.out 3).trans rfl; have hcz39_4 : w36.cell? ⟨gb115, 4, none⟩ = some (.slice (some ad119) l0_4.length c0_4) := (blk_cell BK115.out 4).trans rfl; have hcz39_5 : w36.cell? ⟨gb115, 5, none⟩ = some (.slice A0_5 l0_5.length c0_5) := (blk_cell BK115.out 5).trans rfl; have hfz39_0 := blk_frozen BK115.out 0; have hfz39_1 := blk_frozen BK115.out 1; have hfz39_2 := blk_frozen BK115.out 2; have hfz39_3 := blk_frozen BK115.out 3; have hfz39_4 := blk_frozen BK115.out 4; have hfz39_5 := blk_frozen BK115.out 5) | ((with_reducible refine gate_callee (f := 24) rfl ?_); refine goesL_ (some 43) rfl rfl Try.func24 (by kernel_rfl) rfl #[.agg #[.slice A0_0 l0_0.length c0_0, .slice A0_1 l0_1.length c0_1, .slice A0_2 l0_2.length c0_2, .slice A0_3 l0_3.length c0_3, .slice (some ad119) l0_4.length c0_4, .slice A0_5 l0_5.length c0_5], .agg #[.string ((rd_T34 l0_4 x34_2).f0), .bool ((rd_T34 l0_4 x34_2).f1), .slice A119_2 ((rd_T34 l0_4 x34_2).f2).length c119_2, .slice A119_3 ((rd_T34 l0_4 x34_2).f3).length c119_3, .slice A119_4 ((rd_T34 l0_4 x34_2).f4).length c119_4, .slice A119_5 ((rd_T34 l0_4 x34_2).f5).length c119_5], .string a1, .string a2, .string a3] rfl (by (try simp only [List.map_toArray, List.map_cons, List.map_nil]); first | done | rfl | (simp only [List.length_drop, List.length_take]; rfl)) ?_; (with_reducible refine (glob_bears.calls k2 _ _ l0_0 _ _ l0_1 _ _ l0_2 _ _ l0_3 _ _ l0_4 _ _ l0_5 ((rd_T34 l0_4 x34_2).f0) ((rd_T34 l0_4 x34_2).f1) _ _ ((rd_T34 l0_4 x34_2).f2) _ _ ((rd_T34 l0_4 x34_2).f3) _ _ ((rd_T34 l0_4 x34_2).f4) _ _ ((rd_T34 l0_4 x34_2).f5) a1 a2 a3 false _ ?side1 ?side2 ?side3 ?side4 ?side5 ?side6 ?side7 ?side8 ?side9 ?side10 ?side11 ?side12 ?side13 ?side14 ?side15 ?side16 ?side17 ?side18 ?side19 ?side20 A20.out).mono ?_); (case side1 => exact Kd.C_below HR0_0.out (lb2 HB.out GE115.out GE120.out)); (case side2 => exact HC0_0.out); (case side3 => exact Kd.C_below HR0_1.out (lb2 HB.out GE115.out GE120.out)); (case side4 => exact HC0_1.out); (case side5 => exact Kd.C_below HR0_2.out (lb2 HB.out GE115.out GE120.out)); (case side6 => exact HC0_2.out); (case side7 => exact Kd.C_below HR0_3.out (lb2 HB.out GE115.out GE120.out)); (case side8 => exact HC0_3.out); (case side9 => exact Kd.C_below HR0_4.out (lb2 HB.out GE115.out GE120.out)); (case side10 => exact HC0_4.out); (case side11 => exact Kd.C_below HR0_5.out (lb2 HB.out GE115.out GE120.out)); (case side12 => exact HC0_5.out); (case side13 => exact Kd.C_below HR119_2.out (lb2 HB.out GE115.out GE120.out)); (case side14 => exact HC119_2.out); (case side15 => exact Kd.C_below HR119_3.out (lb2 HB.out GE115.out GE120.out)); (case side16 => exact HC119_3.out); (case side17 => exact Kd.C_below HR119_4.out (lb2 HB.out GE115.out GE120.out)); (case side18 => exact HC119_4.out); (case side19 => exact Kd.C_below HR119_5.out (lb2 HB.out GE115.out GE120.out)); (case side20 => exact HC119_5.out); rintro e w40 ⟨rfl, hb⟩; refine ⟨_, rfl, ?_⟩; replace BK115 := Aside0.mk (blk_below (g := gb115) (o := .cells #[.slice A0_0 l0_0.length c0_0, .slice A0_1 l0_1.length c0_1, .slice A0_2 l0_2.length c0_2, .slice A0_3 l0_3.length c0_3, .slice (some ad119) l0_4.length c0_4, .slice A0_5 l0_5.length c0_5] 28 (0, 0)) (by (with_reducible repeat (first | refine blk_drewN ?_ _ | refine blk_drew ?_ | refine blk_alloc ?_ _)); refine blk_far ?_ NB115_120.out _; (with_reducible repeat (first | refine blk_drewN ?_ _ | refine blk_drew ?_ | refine blk_alloc ?_ _)); refine blk_far ?_ NB115_120.out _; (with_reducible repeat (first | refine blk_drewN ?_ _ | refine blk_drew ?_ | refine blk_alloc ?_ _)); refine blk_far ?_ NB115_120.out _; (with_reducible repeat (first | refine blk_drewN ?_ _ | refine blk_drew ?_ | refine blk_alloc ?_ _)); refine blk_far ?_ NB115_120.out _; (with_reducible repeat (first | refine blk_drewN ?_ _ | refine blk_drew ?_ | refine blk_alloc ?_ _)); refine blk_far ?_ NB115_120.out _; (with_reducible repeat (first | refine blk_drewN ?_ _ | refine blk_drew ?_ | refine blk_alloc ?_ _)); refine blk_far ?_ NB115_120.out _; (with_reducible repeat (first | refine blk_drewN ?_ _ | refine blk_drew ?_ | refine blk_alloc ?_ _)); exact BK115.out) hb); replace BK120 := Aside0.mk (blk_below (g := gb120) (o := .cells #[.string ((rd_T34 l0_4 x34_2).f0), .bool ((rd_T34 l0_4 x34_2).f1), .slice A119_2 ((rd_T34 l0_4 x34_2).f2).length c119_2, .slice A119_3 ((rd_T34 l0_4 x34_2).f3).length c119_3, .slice A119_4 ((rd_T34 l0_4 x34_2).f4).length c119_4, .slice A119_5 ((rd_T34 l0_4 x34_2).f5).length c119_5] 34 (0, 0)) (by (with_reducible repeat (first | refine blk_drewN ?_ _ | refine blk_drew ?_ | refine blk_alloc ?_ _)); refine blk_put (cs := #[.string ((rd_T34 l0_4 x34_2).f0), .bool ((rd_T34 l0_4 x34_2).f1), .slice A119_2 ((rd_T34 l0_4 x34_2).f2).length c119_2, .slice A119_3 ((rd_T34 l0_4 x34_2).f3).length c119_3, .slice A119_4 ((rd_T34 l0_4 x34_2).f4).length c119_4, .slice none 0 0]) ?_ 5 _ rfl; (with_reducible repeat (first | refine blk_drewN ?_ _ | refine blk_drew ?_ | refine blk_alloc ?_ _)); refine blk_put (cs := #[.string ((rd_T34 l0_4 x34_2).f0), .bool ((rd_T34 l0_4 x34_2).f1), .slice A119_2 ((rd_T34 l0_4 x34_2).f2).length c119_2, .slice A119_3 ((rd_T34 l0_4 x34_2).f3).length c119_3, .slice none 0 0, .slice none 0 0]) ?_ 4 _ rfl; (with_reducible repeat (first | refine blk_drewN ?_ _ | refine blk_drew ?_ | refine blk_alloc ?_ _)); refine blk_put (cs := #[.string ((rd_T34 l0_4 x34_2).f0), .bool ((rd_T34 l0_4 x34_2).f1), .slice A119_2 ((rd_T34 l0_4 x34_2).f2).length c119_2, .slice none 0 0, .slice none 0 0, .slice none 0 0]) ?_ 3 _ rfl; (with_reducible repeat (first | refine blk_drewN ?_ _ | refine blk_drew ?_ | refine blk_alloc ?_ _)); refine blk_put (cs := #[.string ((rd_T34 l0_4 x34_2).f0), .bool ((rd_T34 l0_4 x34_2).f1), .slice none 0 0, .slice none 0 0, .slice none 0 0, .slice none 0 0]) ?_ 2 _ rfl; (with_reducible repeat (first | refine blk_drewN ?_ _ | refine blk_drew ?_ | refine blk_alloc ?_ _)); refine blk_put (cs := #[.string ((rd_T34 l0_4 x34_2).f0), .bool false, .slice none 0 0, .slice none 0 0, .slice none 0 0, .slice none 0 0]) ?_ 1 _ rfl; (with_reducible repeat (first | refine blk_drewN ?_ _ | refine blk_drew ?_ | refine blk_alloc ?_ _)); refine blk_put (cs := #[.string (⟨#[]⟩ : ByteArray), .bool false, .slice none 0 0, .slice none 0 0, .slice none 0 0, .slice none 0 0]) ?_ 0 _ rfl; (with_reducible repeat (first | refine blk_drewN ?_ _ | refine blk_drew ?_ | refine blk_alloc ?_ _)); exact BK120.out) hb); replace HB := Aside0.mk (below_step (lb2 HB.out GE115.out GE120.out) hb); (try clear hb); (try clear hb2); (try clear hk); (try clear hi)))
      go_roundg k2
      case measure => have := HJ4.out; have := HK2.out; omega
      case rel => exact ⟨(x9_2), (wrap64 (x34_2 + 1)), (by first | rfl | (simp; done) | (simp [*]; done)), (by first | rfl | (simp; done) | (simp [*]; done)), H', ⟨by have := HJ4.out; have := HK2.out; omega⟩, ⟨by (with_reducible repeat (first | refine blk_drewN ?_ _ | refine blk_drew ?_ | refine blk_alloc ?_ _)); exact BK115.out⟩, ⟨lb2 HB.out GE115.out GE120.out⟩⟩
     subst c21
     have H1 : (if (rd_T34 l0_4 x34_2).f1 = true then (some false) else (glob_May.l0 k2 a1 a2 a3 true l0_4 (l0_4.length : Int) (wrap64 (x34_2 + 1)) l0_0 l0_1 l0_2 l0_3 l0_4 l0_5)) = some r := by rw [if_pos rfl] at H; exact H
     clear H
     have H := H1
     clear H1
     obtain ⟨bq22, hbq22⟩ : ∃ b_ : Bool, b_ = ((rd_T34 l0_4 x34_2).f1) := ⟨_, rfl⟩
     replace H : (if bq22 = true then (some false) else (glob_May.l0 k2 a1 a2 a3 true l0_4 (l0_4.length : Int) (wrap64 (x34_2 + 1)) l0_0 l0_1 l0_2 l0_3 l0_4 l0_5)) = some r := by rw [← hbq22] at H; exact H
     have Nbq22 := Aside0.mk hbq22
     clear hbq22
     by_cases c23 : bq22 = true
     ·subst c23
      have H1 : (some false) = some r := by rw [if_pos rfl] at H; exact H
      clear H
      have H := H1
      clear H1
      obtain rfl := Option.some.inj H
      have p119 : 0 ≤ (x34_2 : Int) := of_decide_eq_true (by first | (with_reducible assumption) | assumption)
      have q119 : x34_2 < (l0_4.length : Int) := of_decide_eq_true (by first | (with_reducible assumption) | assumption)
      obtain ⟨ad119, A119_2, c119_2, A119_3, c119_3, A119_4, c119_4, A119_5, c119_5, e119, hx119_0, hx119_1, hx119_2, hx119_3, hx119_4, hx119_5, hl119_2, hi119_2, hl119_3, hi119_3, hl119_4, hi119_4, hl119_5, hi119_5⟩ := at_T34 HR0_4.out x34_2 p119 q119
      (try rw [← Nbq22.out] at hx119_1)
      cases e119
      replace hx119_0 := (HB.out.cell (World.block_lt_of_cell? w _ hx119_0)).trans hx119_0
      replace hx119_1 := (HB.out.cell (World.block_lt_of_cell? w _ hx119_1)).trans hx119_1
      replace hx119_2 := (HB.out.cell (World.block_lt_of_cell? w _ hx119_2)).trans hx119_2
      replace hx119_3 := (HB.out.cell (World.block_lt_of_cell? w _ hx119_3)).trans hx119_3
      replace hx119_4 := (HB.out.cell (World.block_lt_of_cell? w _ hx119_4)).trans hx119_4
      replace hx119_5 := (HB.out.cell (World.block_lt_of_cell? w _ hx119_5)).trans hx119_5
      have HR119_2 := Aside0.mk hi119_2
      have HC119_2 := Aside0.mk hl119_2
      clear hi119_2 hl119_2
      have HR119_3 := Aside0.mk hi119_3
      have HC119_3 := Aside0.mk hl119_3
      clear hi119_3 hl119_3
      have HR119_4 := Aside0.mk hi119_4
      have HC119_4 := Aside0.mk hl119_4
      clear hi119_4 hl119_4
      have HR119_5 := Aside0.mk hi119_5
      have HC119_5 := Aside0.mk hl119_5
      clear hi119_5 hl119_5
      replace p119 := eq_true p119
      replace q119 := eq_true q119
      go_wp2_with (first | ((with_reducible refine gate_dst (N := 11) rfl ?_); refine box_event ?hg (N := 11) ?hd (cs := #[.string (⟨#[]⟩ : ByteArray), .bool false, .slice none 0 0, .slice none 0 0, .slice none 0 0, .slice none 0 0]) (t := 34) ?hr ?_; (case hd => rfl); (case hg => rfl); (case hr => first | (go_simp; done) | (go_simp; rfl)); intro gb120 hg w24 hbox hb; have BK120 := Aside0.mk (hbox); have GW120 := Aside0.mk ((by rw [hg]; exact (below_size (lb1 HB.out GE115.out)) : w.heap.size ≤ gb120)); have GE120 := Aside0.mk ((by rw [hg]; exact (below_size (lb1 HB.out GE115.out)) : w.heap.size ≤ gb120)); replace HB := Aside0.mk (below_step (lb1 HB.out GE115.out) hb); have NB115_120 := Aside0.mk ((by rw [hg]; exact Nat.ne_of_lt (blk_lt (g := gb115) (o := .cells #[.slice A0_0 l0_0.length c0_0, .slice A0_1 l0_1.length c0_1, .slice A0_2 l0_2.length c0_2, .slice A0_3 l0_3.length c0_3, .slice (some ad119) l0_4.length c0_4, .slice A0_5 l0_5.length c0_5] 28 (0, 0)) (lk BK115.out)) : gb115 ≠ gb120)); have NB120_115 := Aside0.mk ((by rw [hg]; exact Nat.ne_of_gt (blk_lt (g := gb115) (o := .cells #[.slice A0_0 l0_0.length c0_0, .slice A0_1 l0_1.length c0_1, .slice A0_2 l0_2.length c0_2, .slice A0_3 l0_3.length c0_3, .slice (some ad119) l0_4.length c0_4, .slice A0_5 l0_5.length c0_5] 28 (0, 0)) (lk BK115.out)) : gb120 ≠ gb115)); replace BK115 := Aside0.mk (blk_below (g := gb115) (o := .cells #[.slice A0_0 l0_0.length c0_0, .slice A0_1 l0_1.length c0_1, .slice A0_2 l0_2.length c0_2, .slice A0_3 l0_3.length c0_3, .slice (some ad119) l0_4.length c0_4, .slice A0_5 l0_5.length c0_5] 28 (0, 0)) (lk BK115.out) hb); clear hb hbox hg; have hnb25 := NB120_115.out; have hnc25 := NB115_120.out; have hcz26_0 : w24.cell? ⟨gb120, 0, none⟩ = some (.string (⟨#[]⟩ : ByteArray)) := (blk_cell BK120.out 0).trans rfl; have hcz26_1 : w24.cell? ⟨gb120, 1, none⟩ = some (.bool false) := (blk_cell BK120.out 1).trans rfl; have hcz26_2 : w24.cell? ⟨gb120, 2, none⟩ = some (.slice none 0 0) := (blk_cell BK120.out 2).trans rfl; have hcz26_3 : w24.cell? ⟨gb120, 3, none⟩ = some (.slice none 0 0) := (blk_cell BK120.out 3).trans rfl; have hcz26_4 : w24.cell? ⟨gb120, 4, none⟩ = some (.slice none 0 0) := (blk_cell BK120.out 4).trans rfl; have hcz26_5 : w24.cell? ⟨gb120, 5, none⟩ = some (.slice none 0 0) := (blk_cell BK120.out 5).trans rfl; have hfz26_0 := blk_frozen BK120.out 0; have hfz26_1 := blk_frozen BK120.out 1; have hfz26_2 := blk_frozen BK120.out 2; have hfz26_3 := blk_frozen BK120.out 3; have hfz26_4 := blk_frozen BK120.out 4; have hfz26_5 := blk_frozen BK120.out 5; have hcz27_0 : w24.cell? ⟨gb115, 0, none⟩ = some (.slice A0_0 l0_0.length c0_0) := (blk_cell BK115.out 0).trans rfl; have hcz27_1 : w24.cell? ⟨gb115, 1, none⟩ = some (.slice A0_1 l0_1.length c0_1) := (blk_cell BK115.out 1).trans rfl; have hcz27_2 : w24.cell? ⟨gb115, 2, none⟩ = some (.slice A0_2 l0_2.length c0_2) := (blk_cell BK115.out 2).trans rfl; have hcz27_3 : w24.cell? ⟨gb115, 3, none⟩ = some (.slice A0_3 l0_3.length c0_3) := (blk_cell BK115.out 3).trans rfl; have hcz27_4 : w24.cell? ⟨gb115, 4, none⟩ = some (.slice (some ad119) l0_4.length c0_4) := (blk_cell BK115.out 4).trans rfl; have hcz27_5 : w24.cell? ⟨gb115, 5, none⟩ = some (.slice A0_5 l0_5.length c0_5) := (blk_cell BK115.out 5).trans rfl; have hfz27_0 := blk_frozen BK115.out 0; have hfz27_1 := blk_frozen BK115.out 1; have hfz27_2 := blk_frozen BK115.out 2; have hfz27_3 := blk_frozen BK115.out 3; have hfz27_4 := blk_frozen BK115.out 4; have hfz27_5 := blk_frozen BK115.out 5) | ((with_reducible refine gate_callee (f := 24) rfl ?_); refine goesL_ (some 43) rfl rfl Try.func24 (by kernel_rfl) rfl #[.agg #[.slice A0_0 l0_0.length c0_0, .slice A0_1 l0_1.length c0_1, .slice A0_2 l0_2.length c0_2, .slice A0_3 l0_3.length c0_3, .slice (some ad119) l0_4.length c0_4, .slice A0_5 l0_5.length c0_5], .agg #[.string ((rd_T34 l0_4 x34_2).f0), .bool true, .slice A119_2 ((rd_T34 l0_4 x34_2).f2).length c119_2, .slice A119_3 ((rd_T34 l0_4 x34_2).f3).length c119_3, .slice A119_4 ((rd_T34 l0_4 x34_2).f4).length c119_4, .slice A119_5 ((rd_T34 l0_4 x34_2).f5).length c119_5], .string a1, .string a2, .string a3] rfl (by (try simp only [List.map_toArray, List.map_cons, List.map_nil]); first | done | rfl | (simp only [List.length_drop, List.length_take]; rfl)) ?_; (with_reducible refine (glob_bears.calls k2 _ _ l0_0 _ _ l0_1 _ _ l0_2 _ _ l0_3 _ _ l0_4 _ _ l0_5 ((rd_T34 l0_4 x34_2).f0) true _ _ ((rd_T34 l0_4 x34_2).f2) _ _ ((rd_T34 l0_4 x34_2).f3) _ _ ((rd_T34 l0_4 x34_2).f4) _ _ ((rd_T34 l0_4 x34_2).f5) a1 a2 a3 true _ ?side1 ?side2 ?side3 ?side4 ?side5 ?side6 ?side7 ?side8 ?side9 ?side10 ?side11 ?side12 ?side13 ?side14 ?side15 ?side16 ?side17 ?side18 ?side19 ?side20 A20.out).mono ?_); (case side1 => exact Kd.C_below HR0_0.out (lb2 HB.out GE115.out GE120.out)); (case side2 => exact HC0_0.out); (case side3 => exact Kd.C_below HR0_1.out (lb2 HB.out GE115.out GE120.out)); (case side4 => exact HC0_1.out); (case side5 => exact Kd.C_below HR0_2.out (lb2 HB.out GE115.out GE120.out)); (case side6 => exact HC0_2.out); (case side7 => exact Kd.C_below HR0_3.out (lb2 HB.out GE115.out GE120.out)); (case side8 => exact HC0_3.out); (case side9 => exact Kd.C_below HR0_4.out (lb2 HB.out GE115.out GE120.out)); (case side10 => exact HC0_4.out); (case side11 => exact Kd.C_below HR0_5.out (lb2 HB.out GE115.out GE120.out)); (case side12 => exact HC0_5.out); (case side13 => exact Kd.C_below HR119_2.out (lb2 HB.out GE115.out GE120.out)); (case side14 => exact HC119_2.out); (case side15 => exact Kd.C_below HR119_3.out (lb2 HB.out GE115.out GE120.out)); (case side16 => exact HC119_3.out); (case side17 => exact Kd.C_below HR119_4.out (lb2 HB.out GE115.out GE120.out)); (case side18 => exact HC119_4.out); (case side19 => exact Kd.C_below HR119_5.out (lb2 HB.out GE115.out GE120.out)); (case side20 => exact HC119_5.out); rintro e w28 ⟨rfl, hb⟩; refine ⟨_, rfl, ?_⟩; replace BK115 := Aside0.mk (blk_below (g := gb115) (o := .cells #[.slice A0_0 l0_0.length c0_0, .slice A0_1 l0_1.length c0_1, .slice A0_2 l0_2.length c0_2, .slice A0_3 l0_3.length c0_3, .slice (some ad119) l0_4.length c0_4, .slice A0_5 l0_5.length c0_5] 28 (0, 0)) (by (with_reducible repeat (first | refine blk_drewN ?_ _ | refine blk_drew ?_ | refine blk_alloc ?_ _)); refine blk_far ?_ NB115_120.out _; (with_reducible repeat (first | refine blk_drewN ?_ _ | refine blk_drew ?_ | refine blk_alloc ?_ _)); refine blk_far ?_ NB115_120.out _; (with_reducible repeat (first | refine blk_drewN ?_ _ | refine blk_drew ?_ | refine blk_alloc ?_ _)); refine blk_far ?_ NB115_120.out _; (with_reducible repeat (first | refine blk_drewN ?_ _ | refine blk_drew ?_ | refine blk_alloc ?_ _)); refine blk_far ?_ NB115_120.out _; (with_reducible repeat (first | refine blk_drewN ?_ _ | refine blk_drew ?_ | refine blk_alloc ?_ _)); refine blk_far ?_ NB115_120.out _; (with_reducible repeat (first | refine blk_drewN ?_ _ | refine blk_drew ?_ | refine blk_alloc ?_ _)); refine blk_far ?_ NB115_120.out _; (with_reducible repeat (first | refine blk_drewN ?_ _ | refine blk_drew ?_ | refine blk_alloc ?_ _)); exact BK115.out) hb); replace BK120 := Aside0.mk (blk_below (g := gb120) (o := .cells #[.string ((rd_T34 l0_4 x34_2).f0), .bool true, .slice A119_2 ((rd_T34 l0_4 x34_2).f2).length c119_2, .slice A119_3 ((rd_T34 l0_4 x34_2).f3).length c119_3, .slice A119_4 ((rd_T34 l0_4 x34_2).f4).length c119_4, .slice A119_5 ((rd_T34 l0_4 x34_2).f5).length c119_5] 34 (0, 0)) (by (with_reducible repeat (first | refine blk_drewN ?_ _ | refine blk_drew ?_ | refine blk_alloc ?_ _)); refine blk_put (cs := #[.string ((rd_T34 l0_4 x34_2).f0), .bool true, .slice A119_2 ((rd_T34 l0_4 x34_2).f2).length c119_2, .slice A119_3 ((rd_T34 l0_4 x34_2).f3).length c119_3, .slice A119_4 ((rd_T34 l0_4 x34_2).f4).length c119_4, .slice none 0 0]) ?_ 5 _ rfl; (with_reducible repeat (first | refine blk_drewN ?_ _ | refine blk_drew ?_ | refine blk_alloc ?_ _)); refine blk_put (cs := #[.string ((rd_T34 l0_4 x34_2).f0), .bool true, .slice A119_2 ((rd_T34 l0_4 x34_2).f2).length c119_2, .slice A119_3 ((rd_T34 l0_4 x34_2).f3).length c119_3, .slice none 0 0, .slice none 0 0]) ?_ 4 _ rfl; (with_reducible repeat (first | refine blk_drewN ?_ _ | refine blk_drew ?_ | refine blk_alloc ?_ _)); refine blk_put (cs := #[.string ((rd_T34 l0_4 x34_2).f0), .bool true, .slice A119_2 ((rd_T34 l0_4 x34_2).f2).length c119_2, .slice none 0 0, .slice none 0 0, .slice none 0 0]) ?_ 3 _ rfl; (with_reducible repeat (first | refine blk_drewN ?_ _ | refine blk_drew ?_ | refine blk_alloc ?_ _)); refine blk_put (cs := #[.string ((rd_T34 l0_4 x34_2).f0), .bool true, .slice none 0 0, .slice none 0 0, .slice none 0 0, .slice none 0 0]) ?_ 2 _ rfl; (with_reducible repeat (first | refine blk_drewN ?_ _ | refine blk_drew ?_ | refine blk_alloc ?_ _)); refine blk_put (cs := #[.string ((rd_T34 l0_4 x34_2).f0), .bool false, .slice none 0 0, .slice none 0 0, .slice none 0 0, .slice none 0 0]) ?_ 1 _ rfl; (with_reducible repeat (first | refine blk_drewN ?_ _ | refine blk_drew ?_ | refine blk_alloc ?_ _)); refine blk_put (cs := #[.string (⟨#[]⟩ : ByteArray), .bool false, .slice none 0 0, .slice none 0 0, .slice none 0 0, .slice none 0 0]) ?_ 0 _ rfl; (with_reducible repeat (first | refine blk_drewN ?_ _ | refine blk_drew ?_ | refine blk_alloc ?_ _)); exact BK120.out) hb); replace HB := Aside0.mk (below_step (lb2 HB.out GE115.out GE120.out) hb); (try clear hb); (try clear hb2); (try clear hk); (try clear hi); have hcz29_0 : w28.cell? ⟨gb120, 0, none⟩ = some (.string ((rd_T34 l0_4 x34_2).f0)) := (blk_cell BK120.out 0).trans rfl; have hcz29_1 : w28.cell? ⟨gb120, 1, none⟩ = some (.bool true) := (blk_cell BK120.out 1).trans rfl; have hcz29_2 : w28.cell? ⟨gb120, 2, none⟩ = some (.slice A119_2 ((rd_T34 l0_4 x34_2).f2).length c119_2) := (blk_cell BK120.out 2).trans rfl; have hcz29_3 : w28.cell? ⟨gb120, 3, none⟩ = some (.slice A119_3 ((rd_T34 l0_4 x34_2).f3).length c119_3) := (blk_cell BK120.out 3).trans rfl; have hcz29_4 : w28.cell? ⟨gb120, 4, none⟩ = some (.slice A119_4 ((rd_T34 l0_4 x34_2).f4).length c119_4) := (blk_cell BK120.out 4).trans rfl; have hcz29_5 : w28.cell? ⟨gb120, 5, none⟩ = some (.slice A119_5 ((rd_T34 l0_4 x34_2).f5).length c119_5) := (blk_cell BK120.out 5).trans rfl; have hfz29_0 := blk_frozen BK120.out 0; have hfz29_1 := blk_frozen BK120.out 1; have hfz29_2 := blk_frozen BK120.out 2; have hfz29_3 := blk_frozen BK120.out 3; have hfz29_4 := blk_frozen BK120.out 4; have hfz29_5 := blk_frozen BK120.out 5))
      go_ret
      exact ⟨by first | rfl | (simp [errW_none, errW_some] <;> rfl) | (simp [*, errW_none, errW_some] <;> rfl), lb2 HB.out GE115.out GE120.out⟩
     replace c23 := Bool.eq_false_iff.mpr c23
     subst c23
     have H1 : (glob_May.l0 k2 a1 a2 a3 true l0_4 (l0_4.length : Int) (wrap64 (x34_2 + 1)) l0_0 l0_1 l0_2 l0_3 l0_4 l0_5) = some r := by rw [if_neg (show ¬ (false = true) by decide)] at H; exact H
     clear H
     have H := H1
     clear H1
     have H' := Aside0.mk H
     clear H
     have p119 : 0 ≤ (x34_2 : Int) := of_decide_eq_true (by first | (with_reducible assumption) | assumption)
     have q119 : x34_2 < (l0_4.length : Int) := of_decide_eq_true (by first | (with_reducible assumption) | assumption)
     obtain ⟨ad119, A119_2, c119_2, A119_3, c119_3, A119_4, c119_4, A119_5, c119_5, e119, hx119_0, hx119_1, hx119_2, hx119_3, hx119_4, hx119_5, hl119_2, hi119_2, hl119_3, hi119_3, hl119_4, hi119_4, hl119_5, hi119_5⟩ := at_T34 HR0_4.out x34_2 p119 q119
     (try rw [← Nbq22.out] at hx119_1)
     cases e119
     replace hx119_0 := (HB.out.cell (World.block_lt_of_cell? w _ hx119_0)).trans hx119_0
     replace hx119_1 := (HB.out.cell (World.block_lt_of_cell? w _ hx119_1)).trans hx119_1
     replace hx119_2 := (HB.out.cell (World.block_lt_of_cell? w _ hx119_2)).trans hx119_2
     replace hx119_3 := (HB.out.cell (World.block_lt_of_cell? w _ hx119_3)).trans hx119_3
     replace hx119_4 := (HB.out.cell (World.block_lt_of_cell? w _ hx119_4)).trans hx119_4
     replace hx119_5 := (HB.out.cell (World.block_lt_of_cell? w _ hx119_5)).trans hx119_5
     have HR119_2 := Aside0.mk hi119_2
     have HC119_2 := Aside0.mk hl119_2
     clear hi119_2 hl119_2
     have HR119_3 := Aside0.mk hi119_3
     have HC119_3 := Aside0.mk hl119_3
     clear hi119_3 hl119_3
     have HR119_4 := Aside0.mk hi119_4
     have HC119_4 := Aside0.mk hl119_4
     clear hi119_4 hl119_4
     have HR119_5 := Aside0.mk hi119_5
     have HC119_5 := Aside0.mk hl119_5
     clear hi119_5 hl119_5
     replace p119 := eq_true p119
     replace q119 := eq_true q119
     go_wp2_with (first | ((with_reducible refine gate_dst (N := 11) rfl ?_); refine box_event ?hg (N := 11) ?hd (cs := #[.string (⟨#[]⟩ : ByteArray), .bool false, .slice none 0 0, .slice none 0 0, .slice none 0 0, .slice none 0 0]) (t := 34) ?hr ?_; (case hd => rfl); (case hg => rfl); (case hr => first | (go_simp; done) | (go_simp; rfl)); intro gb120 hg w30 hbox hb; have BK120 := Aside0.mk (hbox); have GW120 := Aside0.mk ((by rw [hg]; exact (below_size (lb1 HB.out GE115.out)) : w.heap.size ≤ gb120)); have GE120 := Aside0.mk ((by rw [hg]; exact (below_size (lb1 HB.out GE115.out)) : w.heap.size ≤ gb120)); replace HB := Aside0.mk (below_step (lb1 HB.out GE115.out) hb); have NB115_120 := Aside0.mk ((by rw [hg]; exact Nat.ne_of_lt (blk_lt (g := gb115) (o := .cells #[.slice A0_0 l0_0.length c0_0, .slice A0_1 l0_1.length c0_1, .slice A0_2 l0_2.length c0_2, .slice A0_3 l0_3.length c0_3, .slice (some ad119) l0_4.length c0_4, .slice A0_5 l0_5.length c0_5] 28 (0, 0)) (lk BK115.out)) : gb115 ≠ gb120)); have NB120_115 := Aside0.mk ((by rw [hg]; exact Nat.ne_of_gt (blk_lt (g := gb115) (o := .cells #[.slice A0_0 l0_0.length c0_0, .slice A0_1 l0_1.length c0_1, .slice A0_2 l0_2.length c0_2, .slice A0_3 l0_3.length c0_3, .slice (some ad119) l0_4.length c0_4, .slice A0_5 l0_5.length c0_5] 28 (0, 0)) (lk BK115.out)) : gb120 ≠ gb115)); replace BK115 := Aside0.mk (blk_below (g := gb115) (o := .cells #[.slice A0_0 l0_0.length c0_0, .slice A0_1 l0_1.length c0_1, .slice A0_2 l0_2.length c0_2, .slice A0_3 l0_3.length c0_3, .slice (some ad119) l0_4.length c0_4, .slice A0_5 l0_5.length c0_5] 28 (0, 0)) (lk BK115.out) hb); clear hb hbox hg; have hnb31 := NB120_115.out; have hnc31 := NB115_120.out; have hcz32_0 : w30.cell? ⟨gb120, 0, none⟩ = some (.string (⟨#[]⟩ : ByteArray)) := (blk_cell BK120.out 0).trans rfl; have hcz32_1 : w30.cell? ⟨gb120, 1, none⟩ = some (.bool false) := (blk_cell BK120.out 1).trans rfl; have hcz32_2 : w30.cell? ⟨gb120, 2, none⟩ = some (.slice none 0 0) := (blk_cell BK120.out 2).trans rfl; have hcz32_3 : w30.cell? ⟨gb120, 3, none⟩ = some (.slice none 0 0) := (blk_cell BK120.out 3).trans rfl; have hcz32_4 : w30.cell? ⟨gb120, 4, none⟩ = some (.slice none 0 0) := (blk_cell BK120.out 4).trans rfl; have hcz32_5 : w30.cell? ⟨gb120, 5, none⟩ = some (.slice none 0 0) := (blk_cell BK120.out 5).trans rfl; have hfz32_0 := blk_frozen BK120.out 0; have hfz32_1 := blk_frozen BK120.out 1; have hfz32_2 := blk_frozen BK120.out 2; have hfz32_3 := blk_frozen BK120.out 3; have hfz32_4 := blk_frozen BK120.out 4; have hfz32_5 := blk_frozen BK120.out 5; have hcz33_0 : w30.cell? ⟨gb115, 0, none⟩ = some (.slice A0_0 l0_0.length c0_0) := (blk_cell BK115.out 0).trans rfl; have hcz33_1 : w30.cell? ⟨gb115, 1, none⟩ = some (.slice A0_1 l0_1.length c0_1) := (blk_cell BK115.out 1).trans rfl; have hcz33_2 : w30.cell? ⟨gb115, 2, none⟩ = some (.slice A0_2 l0_2.length c0_2) := (blk_cell BK115.out 2).trans rfl; have hcz33_3 : w30.cell? ⟨gb115, 3, none⟩ = some (.slice A0_3 l0_3.length c0_3) := (blk_cell BK115.out 3).trans rfl; have hcz33_4 : w30.cell? ⟨gb115, 4, none⟩ = some (.slice (some ad119) l0_4.length c0_4) := (blk_cell BK115.out 4).trans rfl; have hcz33_5 : w30.cell? ⟨gb115, 5, none⟩ = some (.slice A0_5 l0_5.length c0_5) := (blk_cell BK115.out 5).trans rfl; have hfz33_0 := blk_frozen BK115.out 0; have hfz33_1 := blk_frozen BK115.out 1; have hfz33_2 := blk_frozen BK115.out 2; have hfz33_3 := blk_frozen BK115.out 3; have hfz33_4 := blk_frozen BK115.out 4; have hfz33_5 := blk_frozen BK115.out 5) | ((with_reducible refine gate_callee (f := 24) rfl ?_); refine goesL_ (some 43) rfl rfl Try.func24 (by kernel_rfl) rfl #[.agg #[.slice A0_0 l0_0.length c0_0, .slice A0_1 l0_1.length c0_1, .slice A0_2 l0_2.length c0_2, .slice A0_3 l0_3.length c0_3, .slice (some ad119) l0_4.length c0_4, .slice A0_5 l0_5.length c0_5], .agg #[.string ((rd_T34 l0_4 x34_2).f0), .bool false, .slice A119_2 ((rd_T34 l0_4 x34_2).f2).length c119_2, .slice A119_3 ((rd_T34 l0_4 x34_2).f3).length c119_3, .slice A119_4 ((rd_T34 l0_4 x34_2).f4).length c119_4, .slice A119_5 ((rd_T34 l0_4 x34_2).f5).length c119_5], .string a1, .string a2, .string a3] rfl (by (try simp only [List.map_toArray, List.map_cons, List.map_nil]); first | done | rfl | (simp only [List.length_drop, List.length_take]; rfl)) ?_; (with_reducible refine (glob_bears.calls k2 _ _ l0_0 _ _ l0_1 _ _ l0_2 _ _ l0_3 _ _ l0_4 _ _ l0_5 ((rd_T34 l0_4 x34_2).f0) false _ _ ((rd_T34 l0_4 x34_2).f2) _ _ ((rd_T34 l0_4 x34_2).f3) _ _ ((rd_T34 l0_4 x34_2).f4) _ _ ((rd_T34 l0_4 x34_2).f5) a1 a2 a3 true _ ?side1 ?side2 ?side3 ?side4 ?side5 ?side6 ?side7 ?side8 ?side9 ?side10 ?side11 ?side12 ?side13 ?side14 ?side15 ?side16 ?side17 ?side18 ?side19 ?side20 A20.out).mono ?_); (case side1 => exact Kd.C_below HR0_0.out (lb2 HB.out GE115.out GE120.out)); (case side2 => exact HC0_0.out); (case side3 => exact Kd.C_below HR0_1.out (lb2 HB.out GE115.out GE120.out)); (case side4 => exact HC0_1.out); (case side5 => exact Kd.C_below HR0_2.out (lb2 HB.out GE115.out GE120.out)); (case side6 => exact HC0_2.out); (case side7 => exact Kd.C_below HR0_3.out (lb2 HB.out GE115.out GE120.out)); (case side8 => exact HC0_3.out); (case side9 => exact Kd.C_below HR0_4.out (lb2 HB.out GE115.out GE120.out)); (case side10 => exact HC0_4.out); (case side11 => exact Kd.C_below HR0_5.out (lb2 HB.out GE115.out GE120.out)); (case side12 => exact HC0_5.out); (case side13 => exact Kd.C_below HR119_2.out (lb2 HB.out GE115.out GE120.out)); (case side14 => exact HC119_2.out); (case side15 => exact Kd.C_below HR119_3.out (lb2 HB.out GE115.out GE120.out)); (case side16 => exact HC119_3.out); (case side17 => exact Kd.C_below HR119_4.out (lb2 HB.out GE115.out GE120.out)); (case side18 => exact HC119_4.out); (case side19 => exact Kd.C_below HR119_5.out (lb2 HB.out GE115.out GE120.out)); (case side20 => exact HC119_5.out); rintro e w34 ⟨rfl, hb⟩; refine ⟨_, rfl, ?_⟩; replace BK115 := Aside0.mk (blk_below (g := gb115) (o := .cells #[.slice A0_0 l0_0.length c0_0, .slice A0_1 l0_1.length c0_1, .slice A0_2 l0_2.length c0_2, .slice A0_3 l0_3.length c0_3, .slice (some ad119) l0_4.length c0_4, .slice A0_5 l0_5.length c0_5] 28 (0, 0)) (by (with_reducible repeat (first | refine blk_drewN ?_ _ | refine blk_drew ?_ | refine blk_alloc ?_ _)); refine blk_far ?_ NB115_120.out _; (with_reducible repeat (first | refine blk_drewN ?_ _ | refine blk_drew ?_ | refine blk_alloc ?_ _)); refine blk_far ?_ NB115_120.out _; (with_reducible repeat (first | refine blk_drewN ?_ _ | refine blk_drew ?_ | refine blk_alloc ?_ _)); refine blk_far ?_ NB115_120.out _; (with_reducible repeat (first | refine blk_drewN ?_ _ | refine blk_drew ?_ | refine blk_alloc ?_ _)); refine blk_far ?_ NB115_120.out _; (with_reducible repeat (first | refine blk_drewN ?_ _ | refine blk_drew ?_ | refine blk_alloc ?_ _)); refine blk_far ?_ NB115_120.out _; (with_reducible repeat (first | refine blk_drewN ?_ _ | refine blk_drew ?_ | refine blk_alloc ?_ _)); refine blk_far ?_ NB115_120.out _; (with_reducible repeat (first | refine blk_drewN ?_ _ | refine blk_drew ?_ | refine blk_alloc ?_ _)); exact BK115.out) hb); replace BK120 := Aside0.mk (blk_below (g := gb120) (o := .cells #[.string ((rd_T34 l0_4 x34_2).f0), .bool false, .slice A119_2 ((rd_T34 l0_4 x34_2).f2).length c119_2, .slice A119_3 ((rd_T34 l0_4 x34_2).f3).length c119_3, .slice A119_4 ((rd_T34 l0_4 x34_2).f4).length c119_4, .slice A119_5 ((rd_T34 l0_4 x34_2).f5).length c119_5] 34 (0, 0)) (by (with_reducible repeat (first | refine blk_drewN ?_ _ | refine blk_drew ?_ | refine blk_alloc ?_ _)); refine blk_put (cs := #[.string ((rd_T34 l0_4 x34_2).f0), .bool false, .slice A119_2 ((rd_T34 l0_4 x34_2).f2).length c119_2, .slice A119_3 ((rd_T34 l0_4 x34_2).f3).length c119_3, .slice A119_4 ((rd_T34 l0_4 x34_2).f4).length c119_4, .slice none 0 0]) ?_ 5 _ rfl; (with_reducible repeat (first | refine blk_drewN ?_ _ | refine blk_drew ?_ | refine blk_alloc ?_ _)); refine blk_put (cs := #[.string ((rd_T34 l0_4 x34_2).f0), .bool false, .slice A119_2 ((rd_T34 l0_4 x34_2).f2).length c119_2, .slice A119_3 ((rd_T34 l0_4 x34_2).f3).length c119_3, .slice none 0 0, .slice none 0 0]) ?_ 4 _ rfl; (with_reducible repeat (first | refine blk_drewN ?_ _ | refine blk_drew ?_ | refine blk_alloc ?_ _)); refine blk_put (cs := #[.string ((rd_T34 l0_4 x34_2).f0), .bool false, .slice A119_2 ((rd_T34 l0_4 x34_2).f2).length c119_2, .slice none 0 0, .slice none 0 0, .slice none 0 0]) ?_ 3 _ rfl; (with_reducible repeat (first | refine blk_drewN ?_ _ | refine blk_drew ?_ | refine blk_alloc ?_ _)); refine blk_put (cs := #[.string ((rd_T34 l0_4 x34_2).f0), .bool false, .slice none 0 0, .slice none 0 0, .slice none 0 0, .slice none 0 0]) ?_ 2 _ rfl; (with_reducible repeat (first | refine blk_drewN ?_ _ | refine blk_drew ?_ | refine blk_alloc ?_ _)); refine blk_put (cs := #[.string ((rd_T34 l0_4 x34_2).f0), .bool false, .slice none 0 0, .slice none 0 0, .slice none 0 0, .slice none 0 0]) ?_ 1 _ rfl; (with_reducible repeat (first | refine blk_drewN ?_ _ | refine blk_drew ?_ | refine blk_alloc ?_ _)); refine blk_put (cs := #[.string (⟨#[]⟩ : ByteArray), .bool false, .slice none 0 0, .slice none 0 0, .slice none 0 0, .slice none 0 0]) ?_ 0 _ rfl; (with_reducible repeat (first | refine blk_drewN ?_ _ | refine blk_drew ?_ | refine blk_alloc ?_ _)); exact BK120.out) hb); replace HB := Aside0.mk (below_step (lb2 HB.out GE115.out GE120.out) hb); (try clear hb); (try clear hb2); (try clear hk); (try clear hi); have hcz35_0 : w34.cell? ⟨gb120, 0, none⟩ = some (.string ((rd_T34 l0_4 x34_2).f0)) := (blk_cell BK120.out 0).trans rfl; have hcz35_1 : w34.cell? ⟨gb120, 1, none⟩ = some (.bool false) := (blk_cell BK120.out 1).trans rfl; have hcz35_2 : w34.cell? ⟨gb120, 2, none⟩ = some (.slice A119_2 ((rd_T34 l0_4 x34_2).f2).length c119_2) := (blk_cell BK120.out 2).trans rfl; have hcz35_3 : w34.cell? ⟨gb120, 3, none⟩ = some (.slice A119_3 ((rd_T34 l0_4 x34_2).f3).length c119_3) := (blk_cell BK120.out 3).trans rfl; have hcz35_4 : w34.cell? ⟨gb120, 4, none⟩ = some (.slice A119_4 ((rd_T34 l0_4 x34_2).f4).length c119_4) := (blk_cell BK120.out 4).trans rfl; have hcz35_5 : w34.cell? ⟨gb120, 5, none⟩ = some (.slice A119_5 ((rd_T34 l0_4 x34_2).f5).length c119_5) := (blk_cell BK120.out 5).trans rfl; have hfz35_0 := blk_frozen BK120.out 0; have hfz35_1 := blk_frozen BK120.out 1; have hfz35_2 := blk_frozen BK120.out 2; have hfz35_3 := blk_frozen BK120.out 3; have hfz35_4 := blk_frozen BK120.out 4; have hfz35_5 := blk_frozen BK120.out 5))
     go_roundg k2
     case measure => have := HJ4.out; have := HK2.out; omega
     case rel => exact ⟨(true), (wrap64 (x34_2 + 1)), (by first | rfl | (simp; done) | (simp [*]; done)), (by first | rfl | (simp; done) | (simp [*]; done)), H', ⟨by have := HJ4.out; have := HK2.out; omega⟩, ⟨by (with_reducible repeat (first | refine blk_drewN ?_ _ | refine blk_drew ?_ | refine blk_alloc ?_ _)); exact BK115.out⟩, ⟨lb2 HB.out GE115.out GE120.out⟩⟩

end Go.Proofs.Ytppndhbeglcioaa.GA
