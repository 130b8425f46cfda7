-- Written by gprint.py, a program of this session's: the kit's printer over contracts that were proved by hand. Lean checks it.
import Derived.Test.YtppndhbeglcioaaCutB
import Derived.Test.YtppndhbeglcioaaMadeV
import Derived.Test.YtppndhbeglcioaaSmB
import Derived.Test.YtppndhbeglcioaaGAx8
import Derived.Test.YtppndhbeglcioaaGAx10
import Derived.Test.YtppndhbeglcioaaGAx13
import Derived.Test.YtppndhbeglcioaaGAx14
import Derived.Test.YtppndhbeglcioaaGAx16
import Derived.Test.YtppndhbeglcioaaGAx17
import Derived.Test.YtppndhbeglcioaaGAx25
import Derived.Test.YtppndhbeglcioaaGAx27
import Derived.Test.YtppndhbeglcioaaGAx29
import Derived.Test.YtppndhbeglcioaaGAx31
import Derived.Test.YtppndhbeglcioaaGAx32
namespace Go.Proofs.Ytppndhbeglcioaa.GA
open Go.RowKit Go.Proofs.YtppndhbeglcioaaW.PrintWords Go.Proofs.YtppndhbeglcioaaW.PrintLast Go.Proofs.YtppndhbeglcioaaW.PrintMore
attribute [local go_sem] max2_int min2_int max_two min_two max_three min_three max_four min_four   -- for this text's walks alone
set_option linter.unusedVariables false
set_option linter.unusedSimpArgs false

/-! ### entaillaw24_GlobTells: function 4 -/
mutual
def entaillaw24_GlobTells.j0 : Nat → ByteArray → ByteArray → List ByteArray → List ByteArray → List Int → Int → Bool → List ByteArray → List ByteArray → List ByteArray → List (S36) → List (S34) → List (S51) → Bool → ByteArray → ByteArray → ByteArray → Option (Bool)
  | 0, _, _, _, _, _, _, _, _, _, _, _, _, _, _, _, _, _ => none
  | k + 1, x0, x1, x2, x3, x5, x7, x54, x456000, x456001, x456002, x456003, x456004, x456005, x457000, x457001, x457002, x457003 => if x54 = true then ((entaillaw24_awake.f k).bind fun t458 => (some t458)) else (entaillaw24_GlobTells.l0 k x0 x1 x2 x3 x5 x7 0 x456000 x456001 x456002 x456003 x456004 x456005 x457000 x457001 x457002 x457003)
def entaillaw24_GlobTells.l0 : Nat → ByteArray → ByteArray → List ByteArray → List ByteArray → List Int → Int → Int → List ByteArray → List ByteArray → List ByteArray → List (S36) → List (S34) → List (S51) → Bool → ByteArray → ByteArray → ByteArray → Option (Bool)
  | 0, _, _, _, _, _, _, _, _, _, _, _, _, _, _, _, _, _ => none
  | k + 1, x0, x1, x2, x3, x5, x7, x17, x456000, x456001, x456002, x456003, x456004, x456005, x457000, x457001, x457002, x457003 => if x17 < (x2.length : Int) then (if 0 ≤ x17 then (if ((rdOf ByteArray.empty x2 x17).size : Int) > 60 then ((entaillaw24_awake.f k).bind fun t460 => (some t460)) else (entaillaw24_GlobTells.l0 k x0 x1 x2 x3 x5 x7 (wrap64 (x17 + 1)) x456000 x456001 x456002 x456003 x456004 x456005 x457000 x457001 x457002 x457003)) else (none)) else (entaillaw24_GlobTells.l1 k x0 x1 x2 x3 x5 x7 0 x456000 x456001 x456002 x456003 x456004 x456005 x457000 x457001 x457002 x457003)
def entaillaw24_GlobTells.l1 : Nat → ByteArray → ByteArray → List ByteArray → List ByteArray → List Int → Int → Int → List ByteArray → List ByteArray → List ByteArray → List (S36) → List (S34) → List (S51) → Bool → ByteArray → ByteArray → ByteArray → Option (Bool)
  | 0, _, _, _, _, _, _, _, _, _, _, _, _, _, _, _, _, _ => none
  | k + 1, x0, x1, x2, x3, x5, x7, x18, x456000, x456001, x456002, x456003, x456004, x456005, x457000, x457001, x457002, x457003 => if x18 < (x3.length : Int) then (if 0 ≤ x18 then (if ((rdOf ByteArray.empty x3 x18).size : Int) > 60 then ((entaillaw24_awake.f k).bind fun t462 => (some t462)) else (entaillaw24_GlobTells.l1 k x0 x1 x2 x3 x5 x7 (wrap64 (x18 + 1)) x456000 x456001 x456002 x456003 x456004 x456005 x457000 x457001 x457002 x457003)) else (none)) else ((glob_Match.f x0 x1).bind fun t463 => ((entailref22_Match.f k x0 x1).bind fun t464 => (if (t463 != t464) = true then (entaillaw24_GlobTells.j3 k x5 x7 true x456000 x456001 x456002 x456003 x456004 x456005 x457000 x457001 x457002 x457003) else ((glob_Over.f k x2 x3).bind fun t465 => ((entailref22_Over.f k x2 x3).bind fun t468 => ((entailref1_SameTexts.f k t465 t468).bind fun t471 => (entaillaw24_GlobTells.j3 k x5 x7 (!t471) x456000 x456001 x456002 x456003 x456004 x456005 x457000 x457001 x457002 x457003)))))))
def entaillaw24_GlobTells.j3 : Nat → List Int → Int → Bool → List ByteArray → List ByteArray → List ByteArray → List (S36) → List (S34) → List (S51) → Bool → ByteArray → ByteArray → ByteArray → Option (Bool)
  | 0, _, _, _, _, _, _, _, _, _, _, _, _, _ => none
  | k + 1, x5, x7, x98, x456000, x456001, x456002, x456003, x456004, x456005, x457000, x457001, x457002, x457003 => if x98 = true then (some false) else (entaillaw24_GlobTells.l2 k x5 x7 0 x456000 x456001 x456002 x456003 x456004 x456005 x457000 x457001 x457002 x457003)
def entaillaw24_GlobTells.l2 : Nat → List Int → Int → Int → List ByteArray → List ByteArray → List ByteArray → List (S36) → List (S34) → List (S51) → Bool → ByteArray → ByteArray → ByteArray → Option (Bool)
  | 0, _, _, _, _, _, _, _, _, _, _, _, _, _ => none
  | k + 1, x5, x7, x19, x456000, x456001, x456002, x456003, x456004, x456005, x457000, x457001, x457002, x457003 => if x19 < 2 then ((glob_May.f k x456000 x456001 x456002 x456003 x456004 x456005 x457001 x457002 x457003).bind fun t472 => ((entailref22_May.f k x456000 x456001 x456002 x456003 x456004 x456005 x457001 x457002 x457003).bind fun t473 => (if (t472 != t473) = true then (entaillaw24_GlobTells.j5 k x5 x7 x19 true) else ((glob_In.f k x456000 x456001 x456002 x456003 x456004 x456005 x457001 x457002).bind fun t474 => ((entailref22_Inside.f k x456000 x456001 x456002 x456003 x456004 x456005 x457001 x457002).bind fun t475 => (entaillaw24_GlobTells.j5 k x5 x7 x19 (t474 != t475))))))) else ((glob_In.f k x456000 x456001 x456002 x456003 x456004 x456005 x457001 (⟨#[103]⟩ : ByteArray)).bind fun t498 => ((entailref22_Inside.f k x456000 x456001 x456002 x456003 x456004 x456005 x457001 (⟨#[103]⟩ : ByteArray)).bind fun t499 => (if (t498 == t499) = true then ((entaillaw24_awake.f k).bind fun t500 => (some t500)) else (some false))))
def entaillaw24_GlobTells.j5 : Nat → List Int → Int → Int → Bool → Option (Bool)
  | 0, _, _, _, _ => none
  | k + 1, x5, x7, x19, x134 => if x134 = true then (some false) else ((entaillaw23_Made.f k x5).bind fun bt476 => ((entaillaw24_Ask.f x7).bind fun bt494 => (entaillaw24_GlobTells.l2 k x5 x7 (wrap64 (x19 + 1)) bt476.1 bt476.2.1 bt476.2.2.1 bt476.2.2.2.1 bt476.2.2.2.2.1 bt476.2.2.2.2.2 bt494.1 bt494.2.1 bt494.2.2.1 bt494.2.2.2)))
end
def entaillaw24_GlobTells.f (k : Nat) (a0 : ByteArray) (a1 : ByteArray) (l2 : List ByteArray) (l3 : List ByteArray) (l4_0 : List ByteArray) (l4_1 : List ByteArray) (l4_2 : List ByteArray) (l4_3 : List (S36)) (l4_4 : List (S34)) (l4_5 : List (S51)) (l5 : List Int) (a6_0 : Bool) (a6_1 : ByteArray) (a6_2 : ByteArray) (a6_3 : ByteArray) (a7 : Int) : Option (Bool) := if (wrap64 ((a0.size : Int) + (a1.size : Int))) > 200 then (entaillaw24_GlobTells.j0 k a0 a1 l2 l3 l5 a7 true l4_0 l4_1 l4_2 l4_3 l4_4 l4_5 a6_0 a6_1 a6_2 a6_3) else (if (l2.length : Int) > 20 then (entaillaw24_GlobTells.j0 k a0 a1 l2 l3 l5 a7 true l4_0 l4_1 l4_2 l4_3 l4_4 l4_5 a6_0 a6_1 a6_2 a6_3) else (if (l3.length : Int) > 20 then (entaillaw24_GlobTells.j0 k a0 a1 l2 l3 l5 a7 true l4_0 l4_1 l4_2 l4_3 l4_4 l4_5 a6_0 a6_1 a6_2 a6_3) else ((entaillaw23_Small.f l4_0 l4_1 l4_2 l4_3 l4_4 l4_5).bind fun t457 => (if t457 = true then (entaillaw24_GlobTells.j0 k a0 a1 l2 l3 l5 a7 (decide ((wrap64 ((wrap64 ((a6_1.size : Int) + (a6_2.size : Int))) + (a6_3.size : Int))) > 300)) l4_0 l4_1 l4_2 l4_3 l4_4 l4_5 a6_0 a6_1 a6_2 a6_3) else (entaillaw24_GlobTells.j0 k a0 a1 l2 l3 l5 a7 true l4_0 l4_1 l4_2 l4_3 l4_4 l4_5 a6_0 a6_1 a6_2 a6_3)))))
def entaillaw24_GlobTells.T18 : Bool × List (List Nat × List Nat) := (true, [([], []), ([], []), ([1], [1]), ([], []), ([3], [3]), ([], []), ([5], [5]), ([0, 2, 4, 6], [0, 2, 4, 6]), ([], []), ([], []), ([9], [9]), ([], []), ([11], [11]), ([], []), ([13], [13]), ([8, 10, 12, 14, 7], [8, 10, 12, 14]), ([7, 15], [7, 15]), ([16, 15], [16]), ([17], [17]), ([17], [17]), ([19, 17], [17, 19]), ([17], [17]), ([21, 17], [17, 21]), ([18, 20, 22, 17, 17], [17, 18, 20, 22]), ([17], [17]), ([17], [17]), ([25, 17], [17, 25]), ([17], [17]), ([27, 17], [17, 27]), ([24, 26, 28, 23, 17], [17, 24, 26, 28]), ([23, 29, 17], [17, 23, 29]), ([17, 30], [17, 30])])
def entaillaw24_GlobTells.B18 : List Nat := [0, 0, 2, 0, 8, 0, 32, 127, 0, 0, 512, 0, 2048, 0, 8192, 32767, 65535, 131071, 262143, 262143, 786431, 262143, 2359295, 8388607, 262143, 262143, 33816575, 262143, 134479871, 536870911, 1073741823, 2147483647]
theorem entaillaw24_GlobTells.tab18 : rtab .any (opsOf Try.f4 18) = entaillaw24_GlobTells.T18 := by kernel_rfl
theorem entaillaw24_GlobTells.bits18 : waitsOk entaillaw24_GlobTells.T18.2 entaillaw24_GlobTells.B18 = true := by kernel_rfl
def entaillaw24_GlobTells.T21 : Bool × List (List Nat × List Nat) := (true, [([], []), ([], []), ([1], [1]), ([0, 2], [0, 2]), ([], []), ([], []), ([5], [5]), ([4, 6, 3], [4, 6]), ([3, 7], [3, 7]), ([8, 7], [8]), ([9, 9], [9]), ([9, 10], [9, 10]), ([11, 10, 0, 1, 2, 3, 4, 5, 6, 7, 8, 9, 10, 11], [11])])
def entaillaw24_GlobTells.B21 : List Nat := [0, 0, 2, 7, 0, 0, 32, 127, 255, 511, 1023, 2047, 4095]
theorem entaillaw24_GlobTells.tab21 : rtab .any (opsOf Try.f4 21) = entaillaw24_GlobTells.T21 := by kernel_rfl
theorem entaillaw24_GlobTells.bits21 : waitsOk entaillaw24_GlobTells.T21.2 entaillaw24_GlobTells.B21 = true := by kernel_rfl
set_option maxHeartbeats 8000000 in
set_option maxRecDepth 100000 in
theorem entaillaw24_GlobTells.calls (k : Nat) (a0 : ByteArray) (a1 : ByteArray) (A2 : Option Addr) (c2 : Nat) (l2 : List ByteArray) (A3 : Option Addr) (c3 : Nat) (l3 : List ByteArray) (P4_0_ : Nat → Prop) (A4_0 : Option Addr) (c4_0 : Nat) (l4_0 : List ByteArray) (P4_1_ : Nat → Prop) (A4_1 : Option Addr) (c4_1 : Nat) (l4_1 : List ByteArray) (P4_2_ : Nat → Prop) (A4_2 : Option Addr) (c4_2 : Nat) (l4_2 : List ByteArray) (P4_3_ : Nat → Prop) (A4_3 : Option Addr) (c4_3 : Nat) (l4_3 : List (S36)) (P4_4_ : Nat → Prop) (A4_4 : Option Addr) (c4_4 : Nat) (l4_4 : List (S34)) (P4_5_ : Nat → Prop) (A4_5 : Option Addr) (c4_5 : Nat) (l4_5 : List (S51)) (A5 : Option Addr) (c5 : Nat) (l5 : List Int) (a6_0 : Bool) (a6_1 : ByteArray) (a6_2 : ByteArray) (a6_3 : ByteArray) (a7 : Int) (r : Bool) (w : World) (hr2 : Kd.C Kd.string w A2 l2.length l2) (hc2 : l2.length ≤ c2) (hr3 : Kd.C Kd.string w A3 l3.length l3) (hc3 : l3.length ≤ c3) (hs4_0 : Kd.V Kd.string 9 w w.heap.size (fun k_ => P4_0_ k_) (.slice A4_0 l4_0.length c4_0) l4_0) (hs4_1 : Kd.V Kd.string 9 w w.heap.size (fun k_ => P4_1_ k_) (.slice A4_1 l4_1.length c4_1) l4_1) (hs4_2 : Kd.V Kd.string 9 w w.heap.size (fun k_ => P4_2_ k_) (.slice A4_2 l4_2.length c4_2) l4_2) (hs4_3 : Kd.V k36 36 w w.heap.size (fun k_ => P4_3_ k_) (.slice A4_3 l4_3.length c4_3) l4_3) (hs4_4 : Kd.V k34 34 w w.heap.size (fun k_ => P4_4_ k_) (.slice A4_4 l4_4.length c4_4) l4_4) (hs4_5 : Kd.V k51 51 w w.heap.size (fun k_ => P4_5_ k_) (.slice A4_5 l4_5.length c4_5) l4_5) (hr5 : Kd.C (Kd.int .i64) w A5 l5.length l5) (hc5 : l5.length ≤ c5) (h : entaillaw24_GlobTells.f k a0 a1 l2 l3 l4_0 l4_1 l4_2 l4_3 l4_4 l4_5 l5 a6_0 a6_1 a6_2 a6_3 a7 = some r) :
  Calls Try.prog 4 #[.string a0, .string a1, .slice A2 l2.length c2, .slice A3 l3.length c3, .agg #[.slice A4_0 l4_0.length c4_0, .slice A4_1 l4_1.length c4_1, .slice A4_2 l4_2.length c4_2, .slice A4_3 l4_3.length c4_3, .slice A4_4 l4_4.length c4_4, .slice A4_5 l4_5.length c4_5], .slice A5 l5.length c5, .agg #[.bool a6_0, .string a6_1, .string a6_2, .string a6_3], .int .i64 a7] w fun e w' => e = .returned (.bool r) ∧ Below w.heap.size w w' := by
 have hu28 := Try.underlying28
 have hu31 := Try.underlying31
 have HR2 := Aside0.mk hr2
 have HC2 := Aside0.mk hc2
 clear hr2 hc2
 have HR3 := Aside0.mk hr3
 have HC3 := Aside0.mk hc3
 clear hr3 hc3
 have HO4_0 := Aside0.mk (show Kd.V Kd.string 9 w w.heap.size (fun k_ => ((P4_0_ k_ ∨ P4_1_ k_ ∨ P4_2_ k_ ∨ P4_3_ k_ ∨ P4_4_ k_ ∨ P4_5_ k_) ∨ w.heap.size ≤ k_)) (.slice A4_0 l4_0.length c4_0) l4_0 from Kd.V_mono hs4_0 (fun k_ hk => .inl (.inl hk)))
 have HO4_1 := Aside0.mk (show Kd.V Kd.string 9 w w.heap.size (fun k_ => ((P4_0_ k_ ∨ P4_1_ k_ ∨ P4_2_ k_ ∨ P4_3_ k_ ∨ P4_4_ k_ ∨ P4_5_ k_) ∨ w.heap.size ≤ k_)) (.slice A4_1 l4_1.length c4_1) l4_1 from Kd.V_mono hs4_1 (fun k_ hk => .inl (.inr (.inl hk))))
 have HO4_2 := Aside0.mk (show Kd.V Kd.string 9 w w.heap.size (fun k_ => ((P4_0_ k_ ∨ P4_1_ k_ ∨ P4_2_ k_ ∨ P4_3_ k_ ∨ P4_4_ k_ ∨ P4_5_ k_) ∨ w.heap.size ≤ k_)) (.slice A4_2 l4_2.length c4_2) l4_2 from Kd.V_mono hs4_2 (fun k_ hk => .inl (.inr (.inr (.inl hk)))))
 have HO4_3 := Aside0.mk (show Kd.V k36 36 w w.heap.size (fun k_ => ((P4_0_ k_ ∨ P4_1_ k_ ∨ P4_2_ k_ ∨ P4_3_ k_ ∨ P4_4_ k_ ∨ P4_5_ k_) ∨ w.heap.size ≤ k_)) (.slice A4_3 l4_3.length c4_3) l4_3 from Kd.V_mono hs4_3 (fun k_ hk => .inl (.inr (.inr (.inr (.inl hk))))))
 have HO4_4 := Aside0.mk (show Kd.V k34 34 w w.heap.size (fun k_ => ((P4_0_ k_ ∨ P4_1_ k_ ∨ P4_2_ k_ ∨ P4_3_ k_ ∨ P4_4_ k_ ∨ P4_5_ k_) ∨ w.heap.size ≤ k_)) (.slice A4_4 l4_4.length c4_4) l4_4 from Kd.V_mono hs4_4 (fun k_ hk => .inl (.inr (.inr (.inr (.inr (.inl hk)))))))
 have HO4_5 := Aside0.mk (show Kd.V k51 51 w w.heap.size (fun k_ => ((P4_0_ k_ ∨ P4_1_ k_ ∨ P4_2_ k_ ∨ P4_3_ k_ ∨ P4_4_ k_ ∨ P4_5_ k_) ∨ w.heap.size ≤ k_)) (.slice A4_5 l4_5.length c4_5) l4_5 from Kd.V_mono hs4_5 (fun k_ hk => .inl (.inr (.inr (.inr (.inr (.inr hk)))))))
 have HR5 := Aside0.mk hr5
 have HC5 := Aside0.mk hc5
 clear hr5 hc5
 have HB := Aside0.mk (Below.refl w.heap.size w)
 have H : (if (wrap64 ((a0.size : Int) + (a1.size : Int))) > 200 then (entaillaw24_GlobTells.j0 k a0 a1 l2 l3 l5 a7 true l4_0 l4_1 l4_2 l4_3 l4_4 l4_5 a6_0 a6_1 a6_2 a6_3) else (if (l2.length : Int) > 20 then (entaillaw24_GlobTells.j0 k a0 a1 l2 l3 l5 a7 true l4_0 l4_1 l4_2 l4_3 l4_4 l4_5 a6_0 a6_1 a6_2 a6_3) else (if (l3.length : Int) > 20 then (entaillaw24_GlobTells.j0 k a0 a1 l2 l3 l5 a7 true l4_0 l4_1 l4_2 l4_3 l4_4 l4_5 a6_0 a6_1 a6_2 a6_3) else ((entaillaw23_Small.f l4_0 l4_1 l4_2 l4_3 l4_4 l4_5).bind fun t457 => (if t457 = true then (entaillaw24_GlobTells.j0 k a0 a1 l2 l3 l5 a7 (decide ((wrap64 ((wrap64 ((a6_1.size : Int) + (a6_2.size : Int))) + (a6_3.size : Int))) > 300)) l4_0 l4_1 l4_2 l4_3 l4_4 l4_5 a6_0 a6_1 a6_2 a6_3) else (entaillaw24_GlobTells.j0 k a0 a1 l2 l3 l5 a7 true l4_0 l4_1 l4_2 l4_3 l4_4 l4_5 a6_0 a6_1 a6_2 a6_3)))))) = some r := h
 clear h
 have HC9 := Aside0.mk H
 clear H
 go_enter Try.func4, Try.ntmps4
 go_upto_region 1 with (first | ((with_reducible refine gate_dst (N := 12) rfl ?_); (try (refine gate_guard (by rfl) ?_; dsimp only)); refine box_event ?hg (N := 12) ?hd (cs := #[.slice A4_0 l4_0.length c4_0, .slice A4_1 l4_1.length c4_1, .slice A4_2 l4_2.length c4_2, .slice A4_3 l4_3.length c4_3, .slice A4_4 l4_4.length c4_4, .slice A4_5 l4_5.length c4_5]) (t := 28) ?hr ?_; (case hd => rfl); (case hg => rfl); (case hr => first | (go_simp; done) | (go_simp; rfl)); intro gb455 hg w10 hbox hb; replace HO4_0 := Aside0.mk (Kd.V_below (Kd.V_elderB (lV HO4_0.out) gb455 (Nat.le_of_eq hg.symm)) hb); replace HO4_1 := Aside0.mk (Kd.V_below (Kd.V_elderB (lV HO4_1.out) gb455 (Nat.le_of_eq hg.symm)) hb); replace HO4_2 := Aside0.mk (Kd.V_below (Kd.V_elderB (lV HO4_2.out) gb455 (Nat.le_of_eq hg.symm)) hb); replace HO4_3 := Aside0.mk (Kd.V_below (Kd.V_elderB (lV HO4_3.out) gb455 (Nat.le_of_eq hg.symm)) hb); replace HO4_4 := Aside0.mk (Kd.V_below (Kd.V_elderB (lV HO4_4.out) gb455 (Nat.le_of_eq hg.symm)) hb); replace HO4_5 := Aside0.mk (Kd.V_below (Kd.V_elderB (lV HO4_5.out) gb455 (Nat.le_of_eq hg.symm)) hb); have BK455 := Aside0.mk (hbox); have GW455 := Aside0.mk ((by rw [hg]; exact (below_size (lb HB.out)) : w.heap.size ≤ gb455)); have GE455 := Aside0.mk ((by rw [hg]; exact (below_size (lb HB.out)) : w.heap.size ≤ gb455)); replace HB := Aside0.mk (below_step (lb HB.out) hb); clear hb hbox hg) | ((with_reducible refine gate_dst (N := 14) rfl ?_); (try (refine gate_guard (by rfl) ?_; dsimp only)); refine box_event ?hg (N := 14) ?hd (cs := #[.bool a6_0, .string a6_1, .string a6_2, .string a6_3]) (t := 31) ?hr ?_; (case hd => rfl); (case hg => rfl); (case hr => first | (go_simp; done) | (go_simp; rfl)); intro gb456 hg w11 hbox hb; replace HO4_0 := Aside0.mk (Kd.V_below (Kd.V_elderB (lV HO4_0.out) gb456 (Nat.le_of_eq hg.symm)) hb); replace HO4_1 := Aside0.mk (Kd.V_below (Kd.V_elderB (lV HO4_1.out) gb456 (Nat.le_of_eq hg.symm)) hb); replace HO4_2 := Aside0.mk (Kd.V_below (Kd.V_elderB (lV HO4_2.out) gb456 (Nat.le_of_eq hg.symm)) hb); replace HO4_3 := Aside0.mk (Kd.V_below (Kd.V_elderB (lV HO4_3.out) gb456 (Nat.le_of_eq hg.symm)) hb); replace HO4_4 := Aside0.mk (Kd.V_below (Kd.V_elderB (lV HO4_4.out) gb456 (Nat.le_of_eq hg.symm)) hb); replace HO4_5 := Aside0.mk (Kd.V_below (Kd.V_elderB (lV HO4_5.out) gb456 (Nat.le_of_eq hg.symm)) hb); have BK456 := Aside0.mk (hbox); have GW456 := Aside0.mk ((by rw [hg]; exact (below_size (lb1 HB.out GE455.out)) : w.heap.size ≤ gb456)); have GE456 := Aside0.mk ((by rw [hg]; exact (below_size (lb1 HB.out GE455.out)) : w.heap.size ≤ gb456)); replace HB := Aside0.mk (below_step (lb1 HB.out GE455.out) hb); have NB455_456 := Aside0.mk ((by rw [hg]; exact Nat.ne_of_lt (blk_lt (g := gb455) (o := .cells #[.slice A4_0 l4_0.length c4_0, .slice A4_1 l4_1.length c4_1, .slice A4_2 l4_2.length c4_2, .slice A4_3 l4_3.length c4_3, .slice A4_4 l4_4.length c4_4, .slice A4_5 l4_5.length c4_5] 28 (0, 0)) (lk BK455.out)) : gb455 ≠ gb456)); have NB456_455 := Aside0.mk ((by rw [hg]; exact Nat.ne_of_gt (blk_lt (g := gb455) (o := .cells #[.slice A4_0 l4_0.length c4_0, .slice A4_1 l4_1.length c4_1, .slice A4_2 l4_2.length c4_2, .slice A4_3 l4_3.length c4_3, .slice A4_4 l4_4.length c4_4, .slice A4_5 l4_5.length c4_5] 28 (0, 0)) (lk BK455.out)) : gb456 ≠ gb455)); replace BK455 := Aside0.mk (blk_below (g := gb455) (o := .cells #[.slice A4_0 l4_0.length c4_0, .slice A4_1 l4_1.length c4_1, .slice A4_2 l4_2.length c4_2, .slice A4_3 l4_3.length c4_3, .slice A4_4 l4_4.length c4_4, .slice A4_5 l4_5.length c4_5] 28 (0, 0)) (lk BK455.out) hb); clear hb hbox hg))
 (try simp only [Act.put, List.setIfInBounds_toArray, List.set_cons_zero, List.set_cons_succ])
 go_cut [54] (fun v54 wc => ∃ (kq : Nat) (x54_8 : Bool), v54 = .bool x54_8 ∧ Aside0 (entaillaw24_GlobTells.j0 kq a0 a1 l2 l3 l5 a7 x54_8 l4_0 l4_1 l4_2 l4_3 l4_4 l4_5 a6_0 a6_1 a6_2 a6_3 = some r) ∧ Aside0 (kq ≤ k) ∧ Aside0 (Kd.V Kd.string 9 wc w.heap.size (fun k_ => ((P4_0_ k_ ∨ P4_1_ k_ ∨ P4_2_ k_ ∨ P4_3_ k_ ∨ P4_4_ k_ ∨ P4_5_ k_) ∨ w.heap.size ≤ k_) ∧ k_ ≠ gb455 ∧ k_ ≠ gb456) (.slice A4_0 l4_0.length c4_0) l4_0) ∧ Aside0 (Kd.V Kd.string 9 wc w.heap.size (fun k_ => ((P4_0_ k_ ∨ P4_1_ k_ ∨ P4_2_ k_ ∨ P4_3_ k_ ∨ P4_4_ k_ ∨ P4_5_ k_) ∨ w.heap.size ≤ k_) ∧ k_ ≠ gb455 ∧ k_ ≠ gb456) (.slice A4_1 l4_1.length c4_1) l4_1) ∧ Aside0 (Kd.V Kd.string 9 wc w.heap.size (fun k_ => ((P4_0_ k_ ∨ P4_1_ k_ ∨ P4_2_ k_ ∨ P4_3_ k_ ∨ P4_4_ k_ ∨ P4_5_ k_) ∨ w.heap.size ≤ k_) ∧ k_ ≠ gb455 ∧ k_ ≠ gb456) (.slice A4_2 l4_2.length c4_2) l4_2) ∧ Aside0 (Kd.V k36 36 wc w.heap.size (fun k_ => ((P4_0_ k_ ∨ P4_1_ k_ ∨ P4_2_ k_ ∨ P4_3_ k_ ∨ P4_4_ k_ ∨ P4_5_ k_) ∨ w.heap.size ≤ k_) ∧ k_ ≠ gb455 ∧ k_ ≠ gb456) (.slice A4_3 l4_3.length c4_3) l4_3) ∧ Aside0 (Kd.V k34 34 wc w.heap.size (fun k_ => ((P4_0_ k_ ∨ P4_1_ k_ ∨ P4_2_ k_ ∨ P4_3_ k_ ∨ P4_4_ k_ ∨ P4_5_ k_) ∨ w.heap.size ≤ k_) ∧ k_ ≠ gb455 ∧ k_ ≠ gb456) (.slice A4_4 l4_4.length c4_4) l4_4) ∧ Aside0 (Kd.V k51 51 wc w.heap.size (fun k_ => ((P4_0_ k_ ∨ P4_1_ k_ ∨ P4_2_ k_ ∨ P4_3_ k_ ∨ P4_4_ k_ ∨ P4_5_ k_) ∨ w.heap.size ≤ k_) ∧ k_ ≠ gb455 ∧ k_ ≠ gb456) (.slice A4_5 l4_5.length c4_5) l4_5) ∧ Aside0 (wc.heap[gb455]? = some (.cells #[(.slice A4_0 l4_0.length c4_0), (.slice A4_1 l4_1.length c4_1), (.slice A4_2 l4_2.length c4_2), (.slice A4_3 l4_3.length c4_3), (.slice A4_4 l4_4.length c4_4), (.slice A4_5 l4_5.length c4_5)] 28 (0, 0))) ∧ Aside0 (wc.heap[gb456]? = some (.cells #[.bool a6_0, .string a6_1, .string a6_2, .string a6_3] 31 (0, 0))) ∧ Aside0 (Below w.heap.size w wc))
 case first =>
  have H := HC9.out
  clear HC9
  by_cases c12 : (wrap64 ((a0.size : Int) + (a1.size : Int))) > 200
  ·rw [if_pos c12] at H
   have c12b0 : decide (200 < (wrap64 ((a0.size : Int) + (a1.size : Int)))) = true := decide_eq_true c12
   clear c12
   (first | rw [c12b0] | (simp only [i64_w, i32_w]; rw [c12b0]) | skip)
   have H' := Aside0.mk H
   clear H
   go_wp2
   go_meet
   case rel => exact ⟨_, (true), (by first | rfl | (simp; done) | (simp [*]; done)), H', ⟨by first | omega | exact Nat.le_refl _⟩, ⟨by (with_reducible repeat (first | apply Kd.V_alloc | apply Kd.V_drewN | apply Kd.V_drew)); exact Kd.V_mono HO4_0.out (fun _ hk => ⟨hk.1.1, ⟨hk.1.2, hk.2⟩⟩)⟩, ⟨by (with_reducible repeat (first | apply Kd.V_alloc | apply Kd.V_drewN | apply Kd.V_drew)); exact Kd.V_mono HO4_1.out (fun _ hk => ⟨hk.1.1, ⟨hk.1.2, hk.2⟩⟩)⟩, ⟨by (with_reducible repeat (first | apply Kd.V_alloc | apply Kd.V_drewN | apply Kd.V_drew)); exact Kd.V_mono HO4_2.out (fun _ hk => ⟨hk.1.1, ⟨hk.1.2, hk.2⟩⟩)⟩, ⟨by (with_reducible repeat (first | apply Kd.V_alloc | apply Kd.V_drewN | apply Kd.V_drew)); exact Kd.V_mono HO4_3.out (fun _ hk => ⟨hk.1.1, ⟨hk.1.2, hk.2⟩⟩)⟩, ⟨by (with_reducible repeat (first | apply Kd.V_alloc | apply Kd.V_drewN | apply Kd.V_drew)); exact Kd.V_mono HO4_4.out (fun _ hk => ⟨hk.1.1, ⟨hk.1.2, hk.2⟩⟩)⟩, ⟨by (with_reducible repeat (first | apply Kd.V_alloc | apply Kd.V_drewN | apply Kd.V_drew)); exact Kd.V_mono HO4_5.out (fun _ hk => ⟨hk.1.1, ⟨hk.1.2, hk.2⟩⟩)⟩, ⟨by (with_reducible repeat (first | refine blk_drewN ?_ _ | refine blk_drew ?_ | refine blk_alloc ?_ _)); exact BK455.out⟩, ⟨by (with_reducible repeat (first | refine blk_drewN ?_ _ | refine blk_drew ?_ | refine blk_alloc ?_ _)); exact BK456.out⟩, ⟨lb2 HB.out GE455.out GE456.out⟩⟩
  rw [if_neg c12] at H
  have c12b0 : decide (200 < (wrap64 ((a0.size : Int) + (a1.size : Int)))) = false := decide_eq_false c12
  clear c12
  (first | rw [c12b0] | (simp only [i64_w, i32_w]; rw [c12b0]) | skip)
  by_cases c13 : (l2.length : Int) > 20
  ·rw [if_pos c13] at H
   have c13b0 : decide (20 < (l2.length : Int)) = true := decide_eq_true c13
   have c13b1 : decide (20 < l2.length) = true := decide_eq_true (by omega)
   clear c13
   have H' := Aside0.mk H
   clear H
   go_wp2
   go_meet
   case rel => exact ⟨_, (true), (by first | rfl | (simp; done) | (simp [*]; done)), H', ⟨by first | omega | exact Nat.le_refl _⟩, ⟨by (with_reducible repeat (first | apply Kd.V_alloc | apply Kd.V_drewN | apply Kd.V_drew)); exact Kd.V_mono HO4_0.out (fun _ hk => ⟨hk.1.1, ⟨hk.1.2, hk.2⟩⟩)⟩, ⟨by (with_reducible repeat (first | apply Kd.V_alloc | apply Kd.V_drewN | apply Kd.V_drew)); exact Kd.V_mono HO4_1.out (fun _ hk => ⟨hk.1.1, ⟨hk.1.2, hk.2⟩⟩)⟩, ⟨by (with_reducible repeat (first | apply Kd.V_alloc | apply Kd.V_drewN | apply Kd.V_drew)); exact Kd.V_mono HO4_2.out (fun _ hk => ⟨hk.1.1, ⟨hk.1.2, hk.2⟩⟩)⟩, ⟨by (with_reducible repeat (first | apply Kd.V_alloc | apply Kd.V_drewN | apply Kd.V_drew)); exact Kd.V_mono HO4_3.out (fun _ hk => ⟨hk.1.1, ⟨hk.1.2, hk.2⟩⟩)⟩, ⟨by (with_reducible repeat (first | apply Kd.V_alloc | apply Kd.V_drewN | apply Kd.V_drew)); exact Kd.V_mono HO4_4.out (fun _ hk => ⟨hk.1.1, ⟨hk.1.2, hk.2⟩⟩)⟩, ⟨by (with_reducible repeat (first | apply Kd.V_alloc | apply Kd.V_drewN | apply Kd.V_drew)); exact Kd.V_mono HO4_5.out (fun _ hk => ⟨hk.1.1, ⟨hk.1.2, hk.2⟩⟩)⟩, ⟨by (with_reducible repeat (first | refine blk_drewN ?_ _ | refine blk_drew ?_ | refine blk_alloc ?_ _)); exact BK455.out⟩, ⟨by (with_reducible repeat (first | refine blk_drewN ?_ _ | refine blk_drew ?_ | refine blk_alloc ?_ _)); exact BK456.out⟩, ⟨lb2 HB.out GE455.out GE456.out⟩⟩
  rw [if_neg c13] at H
  have c13b0 : decide (20 < (l2.length : Int)) = false := decide_eq_false c13
  have c13b1 : decide (20 < l2.length) = false := decide_eq_false (by omega)
  clear c13
  by_cases c14 : (l3.length : Int) > 20
  ·rw [if_pos c14] at H
   have c14b0 : decide (20 < (l3.length : Int)) = true := decide_eq_true c14
   have c14b1 : decide (20 < l3.length) = true := decide_eq_true (by omega)
   clear c14
   have H' := Aside0.mk H
   clear H
   go_wp2
   go_meet
   case rel => exact ⟨_, (true), (by first | rfl | (simp; done) | (simp [*]; done)), H', ⟨by first | omega | exact Nat.le_refl _⟩, ⟨by (with_reducible repeat (first | apply Kd.V_alloc | apply Kd.V_drewN | apply Kd.V_drew)); exact Kd.V_mono HO4_0.out (fun _ hk => ⟨hk.1.1, ⟨hk.1.2, hk.2⟩⟩)⟩, ⟨by (with_reducible repeat (first | apply Kd.V_alloc | apply Kd.V_drewN | apply Kd.V_drew)); exact Kd.V_mono HO4_1.out (fun _ hk => ⟨hk.1.1, ⟨hk.1.2, hk.2⟩⟩)⟩, ⟨by (with_reducible repeat (first | apply Kd.V_alloc | apply Kd.V_drewN | apply Kd.V_drew)); exact Kd.V_mono HO4_2.out (fun _ hk => ⟨hk.1.1, ⟨hk.1.2, hk.2⟩⟩)⟩, ⟨by (with_reducible repeat (first | apply Kd.V_alloc | apply Kd.V_drewN | apply Kd.V_drew)); exact Kd.V_mono HO4_3.out (fun _ hk => ⟨hk.1.1, ⟨hk.1.2, hk.2⟩⟩)⟩, ⟨by (with_reducible repeat (first | apply Kd.V_alloc | apply Kd.V_drewN | apply Kd.V_drew)); exact Kd.V_mono HO4_4.out (fun _ hk => ⟨hk.1.1, ⟨hk.1.2, hk.2⟩⟩)⟩, ⟨by (with_reducible repeat (first | apply Kd.V_alloc | apply Kd.V_drewN | apply Kd.V_drew)); exact Kd.V_mono HO4_5.out (fun _ hk => ⟨hk.1.1, ⟨hk.1.2, hk.2⟩⟩)⟩, ⟨by (with_reducible repeat (first | refine blk_drewN ?_ _ | refine blk_drew ?_ | refine blk_alloc ?_ _)); exact BK455.out⟩, ⟨by (with_reducible repeat (first | refine blk_drewN ?_ _ | refine blk_drew ?_ | refine blk_alloc ?_ _)); exact BK456.out⟩, ⟨lb2 HB.out GE455.out GE456.out⟩⟩
  rw [if_neg c14] at H
  have c14b0 : decide (20 < (l3.length : Int)) = false := decide_eq_false c14
  have c14b1 : decide (20 < l3.length) = false := decide_eq_false (by omega)
  clear c14
  replace H := Option.bind_eq_some_iff.mp H
  obtain ⟨t457, A150, H⟩ := H
  have A15 := Aside0.mk A150
  clear A150
  by_cases c16 : t457 = true
  ·subst c16
   have H1 : (entaillaw24_GlobTells.j0 k a0 a1 l2 l3 l5 a7 (decide ((wrap64 ((wrap64 ((a6_1.size : Int) + (a6_2.size : Int))) + (a6_3.size : Int))) > 300)) l4_0 l4_1 l4_2 l4_3 l4_4 l4_5 a6_0 a6_1 a6_2 a6_3) = some r := by rw [if_pos rfl] at H; exact H
   clear H
   have H := H1
   clear H1
   have H' := Aside0.mk H
   clear H
   have hnb17 := NB455_456.out
   have hnc17 := NB456_455.out
   have hcz18_0 : w11.cell? ⟨gb455, 0, none⟩ = some (.slice A4_0 l4_0.length c4_0) := (blk_cell BK455.out 0).trans rfl
   have hcz18_1 : w11.cell? ⟨gb455, 1, none⟩ = some (.slice A4_1 l4_1.length c4_1) := (blk_cell BK455.out 1).trans rfl
   have hcz18_2 : w11.cell? ⟨gb455, 2, none⟩ = some (.slice A4_2 l4_2.length c4_2) := (blk_cell BK455.out 2).trans rfl
   have hcz18_3 : w11.cell? ⟨gb455, 3, none⟩ = some (.slice A4_3 l4_3.length c4_3) := (blk_cell BK455.out 3).trans rfl
   have hcz18_4 : w11.cell? ⟨gb455, 4, none⟩ = some (.slice A4_4 l4_4.length c4_4) := (blk_cell BK455.out 4).trans rfl
   have hcz18_5 : w11.cell? ⟨gb455, 5, none⟩ = some (.slice A4_5 l4_5.length c4_5) := (blk_cell BK455.out 5).trans rfl
   have hfz18_0 := blk_frozen BK455.out 0
   have hfz18_1 := blk_frozen BK455.out 1
   have hfz18_2 := blk_frozen BK455.out 2
   have hfz18_3 := blk_frozen BK455.out 3
   have hfz18_4 := blk_frozen BK455.out 4
   have hfz18_5 := blk_frozen BK455.out 5
   go_wp2_with (first | (go_at_call 12; (with_reducible refine (entaillaw23_Small.calls _ _ l4_0 _ _ l4_1 _ _ l4_2 _ _ l4_3 _ _ l4_4 _ _ l4_5 true _ ?side1 ?side2 ?side3 ?side4 ?side5 ?side6 ?side7 ?side8 ?side9 ?side10 ?side11 ?side12 A15.out).mono ?_); (case side1 => exact lC (Kd.V_reads' HO4_0.out).2.2); (case side2 => exact (Kd.V_reads' HO4_0.out).2.1); (case side3 => exact lC (Kd.V_reads' HO4_1.out).2.2); (case side4 => exact (Kd.V_reads' HO4_1.out).2.1); (case side5 => exact lC (Kd.V_reads' HO4_2.out).2.2); (case side6 => exact (Kd.V_reads' HO4_2.out).2.1); (case side7 => exact lC (Kd.V_reads' HO4_3.out).2.2); (case side8 => exact (Kd.V_reads' HO4_3.out).2.1); (case side9 => exact lC (Kd.V_reads' HO4_4.out).2.2); (case side10 => exact (Kd.V_reads' HO4_4.out).2.1); (case side11 => exact lC (Kd.V_reads' HO4_5.out).2.2); (case side12 => exact (Kd.V_reads' HO4_5.out).2.1); rintro e w19 ⟨rfl, hb⟩; replace HO4_0 := Aside0.mk (Kd.V_below (lV HO4_0.out) hb); replace HO4_1 := Aside0.mk (Kd.V_below (lV HO4_1.out) hb); replace HO4_2 := Aside0.mk (Kd.V_below (lV HO4_2.out) hb); replace HO4_3 := Aside0.mk (Kd.V_below (lV HO4_3.out) hb); replace HO4_4 := Aside0.mk (Kd.V_below (lV HO4_4.out) hb); replace HO4_5 := Aside0.mk (Kd.V_below (lV HO4_5.out) hb); replace BK455 := Aside0.mk (blk_below (g := gb455) (o := .cells #[.slice A4_0 l4_0.length c4_0, .slice A4_1 l4_1.length c4_1, .slice A4_2 l4_2.length c4_2, .slice A4_3 l4_3.length c4_3, .slice A4_4 l4_4.length c4_4, .slice A4_5 l4_5.length c4_5] 28 (0, 0)) (lk BK455.out) hb); replace BK456 := Aside0.mk (blk_below (g := gb456) (o := .cells #[.bool a6_0, .string a6_1, .string a6_2, .string a6_3] 31 (0, 0)) (lk BK456.out) hb); replace HB := Aside0.mk (below_step (lb2 HB.out GE455.out GE456.out) hb); (try clear hb); (try clear hb2); (try clear hk); (try clear hi); have hcz20_0 : w19.cell? ⟨gb456, 0, none⟩ = some (.bool a6_0) := (blk_cell BK456.out 0).trans rfl; have hcz20_1 : w19.cell? ⟨gb456, 1, none⟩ = some (.string a6_1) := (blk_cell BK456.out 1).trans rfl; have hcz20_2 : w19.cell? ⟨gb456, 2, none⟩ = some (.string a6_2) := (blk_cell BK456.out 2).trans rfl; have hcz20_3 : w19.cell? ⟨gb456, 3, none⟩ = some (.string a6_3) := (blk_cell BK456.out 3).trans rfl; have hfz20_0 := blk_frozen BK456.out 0; have hfz20_1 := blk_frozen BK456.out 1; have hfz20_2 := blk_frozen BK456.out 2; have hfz20_3 := blk_frozen BK456.out 3))
   go_meet
   case rel => exact ⟨_, (decide ((wrap64 ((wrap64 ((a6_1.size : Int) + (a6_2.size : Int))) + (a6_3.size : Int))) > 300)), (by first | rfl | (simp; done) | (simp [*]; done)), H', ⟨by first | omega | exact Nat.le_refl _⟩, ⟨by (with_reducible repeat (first | apply Kd.V_alloc | apply Kd.V_drewN | apply Kd.V_drew)); exact Kd.V_mono HO4_0.out (fun _ hk => ⟨hk.1.1, ⟨hk.1.2, hk.2⟩⟩)⟩, ⟨by (with_reducible repeat (first | apply Kd.V_alloc | apply Kd.V_drewN | apply Kd.V_drew)); exact Kd.V_mono HO4_1.out (fun _ hk => ⟨hk.1.1, ⟨hk.1.2, hk.2⟩⟩)⟩, ⟨by (with_reducible repeat (first | apply Kd.V_alloc | apply Kd.V_drewN | apply Kd.V_drew)); exact Kd.V_mono HO4_2.out (fun _ hk => ⟨hk.1.1, ⟨hk.1.2, hk.2⟩⟩)⟩, ⟨by (with_reducible repeat (first | apply Kd.V_alloc | apply Kd.V_drewN | apply Kd.V_drew)); exact Kd.V_mono HO4_3.out (fun _ hk => ⟨hk.1.1, ⟨hk.1.2, hk.2⟩⟩)⟩, ⟨by (with_reducible repeat (first | apply Kd.V_alloc | apply Kd.V_drewN | apply Kd.V_drew)); exact Kd.V_mono HO4_4.out (fun _ hk => ⟨hk.1.1, ⟨hk.1.2, hk.2⟩⟩)⟩, ⟨by (with_reducible repeat (first | apply Kd.V_alloc | apply Kd.V_drewN | apply Kd.V_drew)); exact Kd.V_mono HO4_5.out (fun _ hk => ⟨hk.1.1, ⟨hk.1.2, hk.2⟩⟩)⟩, ⟨by (with_reducible repeat (first | refine blk_drewN ?_ _ | refine blk_drew ?_ | refine blk_alloc ?_ _)); exact BK455.out⟩, ⟨by (with_reducible repeat (first | refine blk_drewN ?_ _ | refine blk_drew ?_ | refine blk_alloc ?_ _)); exact BK456.out⟩, ⟨lb2 HB.out GE455.out GE456.out⟩⟩
  replace c16 := Bool.eq_false_iff.mpr c16
  subst c16
  have H1 : (entaillaw24_GlobTells.j0 k a0 a1 l2 l3 l5 a7 true l4_0 l4_1 l4_2 l4_3 l4_4 l4_5 a6_0 a6_1 a6_2 a6_3) = some r := by rw [if_neg (show ¬ (false = true) by decide)] at H; exact H
  clear H
  have H := H1
  clear H1
  have H' := Aside0.mk H
  clear H
  have hnb21 := NB455_456.out
  have hnc21 := NB456_455.out
  have hcz22_0 : w11.cell? ⟨gb455, 0, none⟩ = some (.slice A4_0 l4_0.length c4_0) := (blk_cell BK455.out 0).trans rfl
  have hcz22_1 : w11.cell? ⟨gb455, 1, none⟩ = some (.slice A4_1 l4_1.length c4_1) := (blk_cell BK455.out 1).trans rfl
  have hcz22_2 : w11.cell? ⟨gb455, 2, none⟩ = some (.slice A4_2 l4_2.length c4_2) := (blk_cell BK455.out 2).trans rfl
  have hcz22_3 : w11.cell? ⟨gb455, 3, none⟩ = some (.slice A4_3 l4_3.length c4_3) := (blk_cell BK455.out 3).trans rfl
  have hcz22_4 : w11.cell? ⟨gb455, 4, none⟩ = some (.slice A4_4 l4_4.length c4_4) := (blk_cell BK455.out 4).trans rfl
  have hcz22_5 : w11.cell? ⟨gb455, 5, none⟩ = some (.slice A4_5 l4_5.length c4_5) := (blk_cell BK455.out 5).trans rfl
  have hfz22_0 := blk_frozen BK455.out 0
  have hfz22_1 := blk_frozen BK455.out 1
  have hfz22_2 := blk_frozen BK455.out 2
  have hfz22_3 := blk_frozen BK455.out 3
  have hfz22_4 := blk_frozen BK455.out 4
  have hfz22_5 := blk_frozen BK455.out 5
  go_wp2_with (first | (go_at_call 12; (with_reducible refine (entaillaw23_Small.calls _ _ l4_0 _ _ l4_1 _ _ l4_2 _ _ l4_3 _ _ l4_4 _ _ l4_5 false _ ?side1 ?side2 ?side3 ?side4 ?side5 ?side6 ?side7 ?side8 ?side9 ?side10 ?side11 ?side12 A15.out).mono ?_); (case side1 => exact lC (Kd.V_reads' HO4_0.out).2.2); (case side2 => exact (Kd.V_reads' HO4_0.out).2.1); (case side3 => exact lC (Kd.V_reads' HO4_1.out).2.2); (case side4 => exact (Kd.V_reads' HO4_1.out).2.1); (case side5 => exact lC (Kd.V_reads' HO4_2.out).2.2); (case side6 => exact (Kd.V_reads' HO4_2.out).2.1); (case side7 => exact lC (Kd.V_reads' HO4_3.out).2.2); (case side8 => exact (Kd.V_reads' HO4_3.out).2.1); (case side9 => exact lC (Kd.V_reads' HO4_4.out).2.2); (case side10 => exact (Kd.V_reads' HO4_4.out).2.1); (case side11 => exact lC (Kd.V_reads' HO4_5.out).2.2); (case side12 => exact (Kd.V_reads' HO4_5.out).2.1); rintro e w23 ⟨rfl, hb⟩; replace HO4_0 := Aside0.mk (Kd.V_below (lV HO4_0.out) hb); replace HO4_1 := Aside0.mk (Kd.V_below (lV HO4_1.out) hb); replace HO4_2 := Aside0.mk (Kd.V_below (lV HO4_2.out) hb); replace HO4_3 := Aside0.mk (Kd.V_below (lV HO4_3.out) hb); replace HO4_4 := Aside0.mk (Kd.V_below (lV HO4_4.out) hb); replace HO4_5 := Aside0.mk (Kd.V_below (lV HO4_5.out) hb); replace BK455 := Aside0.mk (blk_below (g := gb455) (o := .cells #[.slice A4_0 l4_0.length c4_0, .slice A4_1 l4_1.length c4_1, .slice A4_2 l4_2.length c4_2, .slice A4_3 l4_3.length c4_3, .slice A4_4 l4_4.length c4_4, .slice A4_5 l4_5.length c4_5] 28 (0, 0)) (lk BK455.out) hb); replace BK456 := Aside0.mk (blk_below (g := gb456) (o := .cells #[.bool a6_0, .string a6_1, .string a6_2, .string a6_3] 31 (0, 0)) (lk BK456.out) hb); replace HB := Aside0.mk (below_step (lb2 HB.out GE455.out GE456.out) hb); (try clear hb); (try clear hb2); (try clear hk); (try clear hi)))
  go_meet
  case rel => exact ⟨_, (true), (by first | rfl | (simp; done) | (simp [*]; done)), H', ⟨by first | omega | exact Nat.le_refl _⟩, ⟨by (with_reducible repeat (first | apply Kd.V_alloc | apply Kd.V_drewN | apply Kd.V_drew)); exact Kd.V_mono HO4_0.out (fun _ hk => ⟨hk.1.1, ⟨hk.1.2, hk.2⟩⟩)⟩, ⟨by (with_reducible repeat (first | apply Kd.V_alloc | apply Kd.V_drewN | apply Kd.V_drew)); exact Kd.V_mono HO4_1.out (fun _ hk => ⟨hk.1.1, ⟨hk.1.2, hk.2⟩⟩)⟩, ⟨by (with_reducible repeat (first | apply Kd.V_alloc | apply Kd.V_drewN | apply Kd.V_drew)); exact Kd.V_mono HO4_2.out (fun _ hk => ⟨hk.1.1, ⟨hk.1.2, hk.2⟩⟩)⟩, ⟨by (with_reducible repeat (first | apply Kd.V_alloc | apply Kd.V_drewN | apply Kd.V_drew)); exact Kd.V_mono HO4_3.out (fun _ hk => ⟨hk.1.1, ⟨hk.1.2, hk.2⟩⟩)⟩, ⟨by (with_reducible repeat (first | apply Kd.V_alloc | apply Kd.V_drewN | apply Kd.V_drew)); exact Kd.V_mono HO4_4.out (fun _ hk => ⟨hk.1.1, ⟨hk.1.2, hk.2⟩⟩)⟩, ⟨by (with_reducible repeat (first | apply Kd.V_alloc | apply Kd.V_drewN | apply Kd.V_drew)); exact Kd.V_mono HO4_5.out (fun _ hk => ⟨hk.1.1, ⟨hk.1.2, hk.2⟩⟩)⟩, ⟨by (with_reducible repeat (first | refine blk_drewN ?_ _ | refine blk_drew ?_ | refine blk_alloc ?_ _)); exact BK455.out⟩, ⟨by (with_reducible repeat (first | refine blk_drewN ?_ _ | refine blk_drew ?_ | refine blk_alloc ?_ _)); exact BK456.out⟩, ⟨lb2 HB.out GE455.out GE456.out⟩⟩
 case rest =>
  clear HC9
  try clear c1
  try clear c2
  try clear p2
  try clear c3
  try clear c4
  try clear c5
  try clear p6
  try clear c12
  try clear c12b0
  try clear c13
  try clear c13b0
  try clear c13b1
  try clear c14
  try clear c14b0
  try clear c14b1
  try clear c16
  try clear c17
  try clear c21
  try clear hcz18_0
  try clear hcz18_1
  try clear hcz18_2
  try clear hcz18_3
  try clear hcz18_4
  try clear hcz18_5
  try clear hcz20_0
  try clear hcz20_1
  try clear hcz20_2
  try clear hcz20_3
  try clear hcz22_0
  try clear hcz22_1
  try clear hcz22_2
  try clear hcz22_3
  try clear hcz22_4
  try clear hcz22_5
  try clear hfz18_0
  try clear hfz18_1
  try clear hfz18_2
  try clear hfz18_3
  try clear hfz18_4
  try clear hfz18_5
  try clear hfz20_0
  try clear hfz20_1
  try clear hfz20_2
  try clear hfz20_3
  try clear hfz22_0
  try clear hfz22_1
  try clear hfz22_2
  try clear hfz22_3
  try clear hfz22_4
  try clear hfz22_5
  obtain ⟨kq, x54_8, rfl, HA, HJ8, HO_456000, HO_456001, HO_456002, HO_456003, HO_456004, HO_456005, BK455, BK456, HB⟩ := hcut
  cases kq with
  | zero => exact absurd HA.out (by simp [entaillaw24_GlobTells.j0])
  | succ kj8 =>
   have H := HA.out
   clear HA
   simp only [entaillaw24_GlobTells.j0] at H
   by_cases c24 : x54_8 = true
   ·subst c24
    have H1 : ((entaillaw24_awake.f kj8).bind fun t458 => (some t458)) = some r := by rw [if_pos rfl] at H; exact H
    clear H
    have H := H1
    clear H1
    replace H := Option.bind_eq_some_iff.mp H
    obtain ⟨t458, A250, H⟩ := H
    have A25 := Aside0.mk A250
    clear A250
    obtain rfl := Option.some.inj H
    go_wp2_with (first | ((with_reducible refine gate_callee (f := 11) rfl ?_); refine goesL_ (some 55) rfl rfl Try.func11 (by kernel_rfl) rfl #[] rfl (by (try simp only [List.map_toArray, List.map_cons, List.map_nil]); first | done | rfl | (simp only [List.length_drop, List.length_take]; rfl)) ?_; (with_reducible refine (entaillaw24_awake.calls kj8  t458 _ A25.out).mono ?_); rintro e w26 ⟨rfl, hb⟩; refine ⟨_, rfl, ?_⟩; replace HO_456000 := Aside0.mk (Kd.V_below (lV HO_456000.out) hb); replace HO_456001 := Aside0.mk (Kd.V_below (lV HO_456001.out) hb); replace HO_456002 := Aside0.mk (Kd.V_below (lV HO_456002.out) hb); replace HO_456003 := Aside0.mk (Kd.V_below (lV HO_456003.out) hb); replace HO_456004 := Aside0.mk (Kd.V_below (lV HO_456004.out) hb); replace HO_456005 := Aside0.mk (Kd.V_below (lV HO_456005.out) hb); replace BK455 := Aside0.mk (blk_below (g := gb455) (o := .cells #[.slice A4_0 l4_0.length c4_0, .slice A4_1 l4_1.length c4_1, .slice A4_2 l4_2.length c4_2, .slice A4_3 l4_3.length c4_3, .slice A4_4 l4_4.length c4_4, .slice A4_5 l4_5.length c4_5] 28 (0, 0)) (lk BK455.out) hb); replace BK456 := Aside0.mk (blk_below (g := gb456) (o := .cells #[.bool a6_0, .string a6_1, .string a6_2, .string a6_3] 31 (0, 0)) (lk BK456.out) hb); replace HB := Aside0.mk (below_step (lb2 HB.out GE455.out GE456.out) hb); (try clear hb); (try clear hb2); (try clear hk); (try clear hi)))
    go_ret
    exact ⟨by first | rfl | (simp [errW_none, errW_some] <;> rfl) | (simp [*, errW_none, errW_some] <;> rfl), lb2 HB.out GE455.out GE456.out⟩
   replace c24 := Bool.eq_false_iff.mpr c24
   subst c24
   have H1 : (entaillaw24_GlobTells.l0 kj8 a0 a1 l2 l3 l5 a7 0 l4_0 l4_1 l4_2 l4_3 l4_4 l4_5 a6_0 a6_1 a6_2 a6_3) = some r := by rw [if_neg (show ¬ (false = true) by decide)] at H; exact H
   clear H
   have H := H1
   clear H1
   have H' := Aside0.mk H
   clear H
   go_wp2
   go_loopg [17] kj8 (fun kq v17 w' => ∃ (x17_2 : Int), v17 = .int .i64 x17_2 ∧ Aside0 (entaillaw24_GlobTells.l0 kq a0 a1 l2 l3 l5 a7 x17_2 l4_0 l4_1 l4_2 l4_3 l4_4 l4_5 a6_0 a6_1 a6_2 a6_3 = some r) ∧ Aside0 (kq ≤ kj8) ∧ Aside0 (Kd.V Kd.string 9 w' w.heap.size (fun k_ => ((P4_0_ k_ ∨ P4_1_ k_ ∨ P4_2_ k_ ∨ P4_3_ k_ ∨ P4_4_ k_ ∨ P4_5_ k_) ∨ w.heap.size ≤ k_) ∧ k_ ≠ gb455 ∧ k_ ≠ gb456) (.slice A4_0 l4_0.length c4_0) l4_0) ∧ Aside0 (Kd.V Kd.string 9 w' w.heap.size (fun k_ => ((P4_0_ k_ ∨ P4_1_ k_ ∨ P4_2_ k_ ∨ P4_3_ k_ ∨ P4_4_ k_ ∨ P4_5_ k_) ∨ w.heap.size ≤ k_) ∧ k_ ≠ gb455 ∧ k_ ≠ gb456) (.slice A4_1 l4_1.length c4_1) l4_1) ∧ Aside0 (Kd.V Kd.string 9 w' w.heap.size (fun k_ => ((P4_0_ k_ ∨ P4_1_ k_ ∨ P4_2_ k_ ∨ P4_3_ k_ ∨ P4_4_ k_ ∨ P4_5_ k_) ∨ w.heap.size ≤ k_) ∧ k_ ≠ gb455 ∧ k_ ≠ gb456) (.slice A4_2 l4_2.length c4_2) l4_2) ∧ Aside0 (Kd.V k36 36 w' w.heap.size (fun k_ => ((P4_0_ k_ ∨ P4_1_ k_ ∨ P4_2_ k_ ∨ P4_3_ k_ ∨ P4_4_ k_ ∨ P4_5_ k_) ∨ w.heap.size ≤ k_) ∧ k_ ≠ gb455 ∧ k_ ≠ gb456) (.slice A4_3 l4_3.length c4_3) l4_3) ∧ Aside0 (Kd.V k34 34 w' w.heap.size (fun k_ => ((P4_0_ k_ ∨ P4_1_ k_ ∨ P4_2_ k_ ∨ P4_3_ k_ ∨ P4_4_ k_ ∨ P4_5_ k_) ∨ w.heap.size ≤ k_) ∧ k_ ≠ gb455 ∧ k_ ≠ gb456) (.slice A4_4 l4_4.length c4_4) l4_4) ∧ Aside0 (Kd.V k51 51 w' w.heap.size (fun k_ => ((P4_0_ k_ ∨ P4_1_ k_ ∨ P4_2_ k_ ∨ P4_3_ k_ ∨ P4_4_ k_ ∨ P4_5_ k_) ∨ w.heap.size ≤ k_) ∧ k_ ≠ gb455 ∧ k_ ≠ gb456) (.slice A4_5 l4_5.length c4_5) l4_5) ∧ Aside0 (w'.heap[gb455]? = some (.cells #[(.slice A4_0 l4_0.length c4_0), (.slice A4_1 l4_1.length c4_1), (.slice A4_2 l4_2.length c4_2), (.slice A4_3 l4_3.length c4_3), (.slice A4_4 l4_4.length c4_4), (.slice A4_5 l4_5.length c4_5)] 28 (0, 0))) ∧ Aside0 (w'.heap[gb456]? = some (.cells #[.bool a6_0, .string a6_1, .string a6_2, .string a6_3] 31 (0, 0))) ∧ Aside0 (Below w.heap.size w w'))
   case atStart => exact ⟨(0), (by first | rfl | (simp; done) | (simp [*]; done)), H', ⟨Nat.le_refl _⟩, ⟨by (with_reducible repeat (first | apply Kd.V_alloc | apply Kd.V_drewN | apply Kd.V_drew)); exact HO_456000.out⟩, ⟨by (with_reducible repeat (first | apply Kd.V_alloc | apply Kd.V_drewN | apply Kd.V_drew)); exact HO_456001.out⟩, ⟨by (with_reducible repeat (first | apply Kd.V_alloc | apply Kd.V_drewN | apply Kd.V_drew)); exact HO_456002.out⟩, ⟨by (with_reducible repeat (first | apply Kd.V_alloc | apply Kd.V_drewN | apply Kd.V_drew)); exact HO_456003.out⟩, ⟨by (with_reducible repeat (first | apply Kd.V_alloc | apply Kd.V_drewN | apply Kd.V_drew)); exact HO_456004.out⟩, ⟨by (with_reducible repeat (first | apply Kd.V_alloc | apply Kd.V_drewN | apply Kd.V_drew)); exact HO_456005.out⟩, ⟨by (with_reducible repeat (first | refine blk_drewN ?_ _ | refine blk_drew ?_ | refine blk_alloc ?_ _)); exact BK455.out⟩, ⟨by (with_reducible repeat (first | refine blk_drewN ?_ _ | refine blk_drew ?_ | refine blk_alloc ?_ _)); exact BK456.out⟩, ⟨lb2 HB.out GE455.out GE456.out⟩⟩
   case round =>
    clear H'
    try clear c1
    try clear c2
    try clear p2
    try clear c3
    try clear c4
    try clear c5
    try clear p6
    try clear c11
    try clear c12
    try clear c12b0
    try clear c13
    try clear c13b0
    try clear c13b1
    try clear c14
    try clear c14b0
    try clear c14b1
    try clear c16
    try clear c17
    try clear c21
    try clear c24
    try clear hcz18_0
    try clear hcz18_1
    try clear hcz18_2
    try clear hcz18_3
    try clear hcz18_4
    try clear hcz18_5
    try clear hcz20_0
    try clear hcz20_1
    try clear hcz20_2
    try clear hcz20_3
    try clear hcz22_0
    try clear hcz22_1
    try clear hcz22_2
    try clear hcz22_3
    try clear hcz22_4
    try clear hcz22_5
    try clear hfz18_0
    try clear hfz18_1
    try clear hfz18_2
    try clear hfz18_3
    try clear hfz18_4
    try clear hfz18_5
    try clear hfz20_0
    try clear hfz20_1
    try clear hfz20_2
    try clear hfz20_3
    try clear hfz22_0
    try clear hfz22_1
    try clear hfz22_2
    try clear hfz22_3
    try clear hfz22_4
    try clear hfz22_5
    try clear p2
    try clear p6
    obtain ⟨x17_2, rfl, HA, HK2, HO_456000, HO_456001, HO_456002, HO_456003, HO_456004, HO_456005, BK455, BK456, HB⟩ := hrel
    cases gk with
    | zero => exact absurd HA.out (by simp [entaillaw24_GlobTells.l0])
    | succ k2 =>
     have H := HA.out
     clear HA
     simp only [entaillaw24_GlobTells.l0] at H
     by_cases c27 : x17_2 < (l2.length : Int)
     ·rw [if_pos c27] at H
      have c27b0 : decide (x17_2 < (l2.length : Int)) = true := decide_eq_true c27
      clear c27
      by_cases c28 : 0 ≤ x17_2
      rotate_left
      ·rw [if_neg c28] at H
       exact absurd H (by simp)
      rw [if_pos c28] at H
      have c28b0 : decide (0 ≤ x17_2) = true := decide_eq_true c28
      clear c28
      by_cases c29 : ((rdOf ByteArray.empty l2 x17_2).size : Int) > 60
      rotate_left
      ·rw [if_neg c29] at H
       have c29b0 : decide (60 < ((rdOf ByteArray.empty l2 x17_2).size : Int)) = false := decide_eq_false c29
       have c29b1 : decide (60 < (rdOf ByteArray.empty l2 x17_2).size) = false := decide_eq_false (by omega)
       clear c29
       have H' := Aside0.mk H
       clear H
       have p459 : 0 ≤ (x17_2 : Int) := of_decide_eq_true (by first | (with_reducible assumption) | assumption)
       have q459 : x17_2 < (l2.length : Int) := of_decide_eq_true (by first | (with_reducible assumption) | assumption)
       obtain ⟨ad459, e459, hx459_0⟩ := Kd.at_string HR2.out x17_2 p459 q459
       cases e459
       replace hx459_0 := (HB.out.cell (World.block_lt_of_cell? w _ hx459_0)).trans hx459_0
       replace p459 := eq_true p459
       replace q459 := eq_true q459
       go_wp2
       go_roundg k2
       case measure => have := HJ8.out; have := HK2.out; omega
       case rel => exact ⟨(wrap64 (x17_2 + 1)), (by first | rfl | (simp; done) | (simp [*]; done)), H', ⟨by have := HJ8.out; have := HK2.out; omega⟩, ⟨by (with_reducible repeat (first | apply Kd.V_alloc | apply Kd.V_drewN | apply Kd.V_drew)); exact HO_456000.out⟩, ⟨by (with_reducible repeat (first | apply Kd.V_alloc | apply Kd.V_drewN | apply Kd.V_drew)); exact HO_456001.out⟩, ⟨by (with_reducible repeat (first | apply Kd.V_alloc | apply Kd.V_drewN | apply Kd.V_drew)); exact HO_456002.out⟩, ⟨by (with_reducible repeat (first | apply Kd.V_alloc | apply Kd.V_drewN | apply Kd.V_drew)); exact HO_456003.out⟩, ⟨by (with_reducible repeat (first | apply Kd.V_alloc | apply Kd.V_drewN | apply Kd.V_drew)); exact HO_456004.out⟩, ⟨by (with_reducible repeat (first | apply Kd.V_alloc | apply Kd.V_drewN | apply Kd.V_drew)); exact HO_456005.out⟩, ⟨by (with_reducible repeat (first | refine blk_drewN ?_ _ | refine blk_drew ?_ | refine blk_alloc ?_ _)); exact BK455.out⟩, ⟨by (with_reducible repeat (first | refine blk_drewN ?_ _ | refine blk_drew ?_ | refine blk_alloc ?_ _)); exact BK456.out⟩, ⟨lb2 HB.out GE455.out GE456.out⟩⟩
      rw [if_pos c29] at H
      have c29b0 : decide (60 < ((rdOf ByteArray.empty l2 x17_2).size : Int)) = true := decide_eq_true c29
      have c29b1 : decide (60 < (rdOf ByteArray.empty l2 x17_2).size) = true := decide_eq_true (by omega)
      clear c29
      replace H := Option.bind_eq_some_iff.mp H
      obtain ⟨t460, A300, H⟩ := H
      have A30 := Aside0.mk A300
      clear A300
      obtain rfl := Option.some.inj H
      have p459 : 0 ≤ (x17_2 : Int) := of_decide_eq_true (by first | (with_reducible assumption) | assumption)
      have q459 : x17_2 < (l2.length : Int) := of_decide_eq_true (by first | (with_reducible assumption) | assumption)
      obtain ⟨ad459, e459, hx459_0⟩ := Kd.at_string HR2.out x17_2 p459 q459
      cases e459
      replace hx459_0 := (HB.out.cell (World.block_lt_of_cell? w _ hx459_0)).trans hx459_0
      replace p459 := eq_true p459
      replace q459 := eq_true q459
      go_wp2_with (first | ((with_reducible refine gate_callee (f := 11) rfl ?_); refine goesL_ (some 68) rfl rfl Try.func11 (by kernel_rfl) rfl #[] rfl (by (try simp only [List.map_toArray, List.map_cons, List.map_nil]); first | done | rfl | (simp only [List.length_drop, List.length_take]; rfl)) ?_; (with_reducible refine (entaillaw24_awake.calls k2  t460 _ A30.out).mono ?_); rintro e w31 ⟨rfl, hb⟩; refine ⟨_, rfl, ?_⟩; replace HO_456000 := Aside0.mk (Kd.V_below (lV HO_456000.out) hb); replace HO_456001 := Aside0.mk (Kd.V_below (lV HO_456001.out) hb); replace HO_456002 := Aside0.mk (Kd.V_below (lV HO_456002.out) hb); replace HO_456003 := Aside0.mk (Kd.V_below (lV HO_456003.out) hb); replace HO_456004 := Aside0.mk (Kd.V_below (lV HO_456004.out) hb); replace HO_456005 := Aside0.mk (Kd.V_below (lV HO_456005.out) hb); replace BK455 := Aside0.mk (blk_below (g := gb455) (o := .cells #[.slice A4_0 l4_0.length c4_0, .slice A4_1 l4_1.length c4_1, .slice A4_2 l4_2.length c4_2, .slice A4_3 l4_3.length c4_3, .slice A4_4 l4_4.length c4_4, .slice A4_5 l4_5.length c4_5] 28 (0, 0)) (lk BK455.out) hb); replace BK456 := Aside0.mk (blk_below (g := gb456) (o := .cells #[.bool a6_0, .string a6_1, .string a6_2, .string a6_3] 31 (0, 0)) (lk BK456.out) hb); replace HB := Aside0.mk (below_step (lb2 HB.out GE455.out GE456.out) hb); (try clear hb); (try clear hb2); (try clear hk); (try clear hi)))
      go_ret
      exact ⟨by first | rfl | (simp [errW_none, errW_some] <;> rfl) | (simp [*, errW_none, errW_some] <;> rfl), lb2 HB.out GE455.out GE456.out⟩
     rw [if_neg c27] at H
     have c27b0 : decide (x17_2 < (l2.length : Int)) = false := decide_eq_false c27
     clear c27
     have H' := Aside0.mk H
     clear H
     go_wp2
     go_loopg [18] k2 (fun kq v18 w' => ∃ (x18_3 : Int), v18 = .int .i64 x18_3 ∧ Aside0 (entaillaw24_GlobTells.l1 kq a0 a1 l2 l3 l5 a7 x18_3 l4_0 l4_1 l4_2 l4_3 l4_4 l4_5 a6_0 a6_1 a6_2 a6_3 = some r) ∧ Aside0 (kq ≤ k2) ∧ Aside0 (Kd.V Kd.string 9 w' w.heap.size (fun k_ => ((P4_0_ k_ ∨ P4_1_ k_ ∨ P4_2_ k_ ∨ P4_3_ k_ ∨ P4_4_ k_ ∨ P4_5_ k_) ∨ w.heap.size ≤ k_) ∧ k_ ≠ gb455 ∧ k_ ≠ gb456) (.slice A4_0 l4_0.length c4_0) l4_0) ∧ Aside0 (Kd.V Kd.string 9 w' w.heap.size (fun k_ => ((P4_0_ k_ ∨ P4_1_ k_ ∨ P4_2_ k_ ∨ P4_3_ k_ ∨ P4_4_ k_ ∨ P4_5_ k_) ∨ w.heap.size ≤ k_) ∧ k_ ≠ gb455 ∧ k_ ≠ gb456) (.slice A4_1 l4_1.length c4_1) l4_1) ∧ Aside0 (Kd.V Kd.string 9 w' w.heap.size (fun k_ => ((P4_0_ k_ ∨ P4_1_ k_ ∨ P4_2_ k_ ∨ P4_3_ k_ ∨ P4_4_ k_ ∨ P4_5_ k_) ∨ w.heap.size ≤ k_) ∧ k_ ≠ gb455 ∧ k_ ≠ gb456) (.slice A4_2 l4_2.length c4_2) l4_2) ∧ Aside0 (Kd.V k36 36 w' w.heap.size (fun k_ => ((P4_0_ k_ ∨ P4_1_ k_ ∨ P4_2_ k_ ∨ P4_3_ k_ ∨ P4_4_ k_ ∨ P4_5_ k_) ∨ w.heap.size ≤ k_) ∧ k_ ≠ gb455 ∧ k_ ≠ gb456) (.slice A4_3 l4_3.length c4_3) l4_3) ∧ Aside0 (Kd.V k34 34 w' w.heap.size (fun k_ => ((P4_0_ k_ ∨ P4_1_ k_ ∨ P4_2_ k_ ∨ P4_3_ k_ ∨ P4_4_ k_ ∨ P4_5_ k_) ∨ w.heap.size ≤ k_) ∧ k_ ≠ gb455 ∧ k_ ≠ gb456) (.slice A4_4 l4_4.length c4_4) l4_4) ∧ Aside0 (Kd.V k51 51 w' w.heap.size (fun k_ => ((P4_0_ k_ ∨ P4_1_ k_ ∨ P4_2_ k_ ∨ P4_3_ k_ ∨ P4_4_ k_ ∨ P4_5_ k_) ∨ w.heap.size ≤ k_) ∧ k_ ≠ gb455 ∧ k_ ≠ gb456) (.slice A4_5 l4_5.length c4_5) l4_5) ∧ Aside0 (w'.heap[gb455]? = some (.cells #[(.slice A4_0 l4_0.length c4_0), (.slice A4_1 l4_1.length c4_1), (.slice A4_2 l4_2.length c4_2), (.slice A4_3 l4_3.length c4_3), (.slice A4_4 l4_4.length c4_4), (.slice A4_5 l4_5.length c4_5)] 28 (0, 0))) ∧ Aside0 (w'.heap[gb456]? = some (.cells #[.bool a6_0, .string a6_1, .string a6_2, .string a6_3] 31 (0, 0))) ∧ Aside0 (Below w.heap.size w w'))
     case atStart => exact ⟨(0), (by first | rfl | (simp; done) | (simp [*]; done)), H', ⟨Nat.le_refl _⟩, ⟨by (with_reducible repeat (first | apply Kd.V_alloc | apply Kd.V_drewN | apply Kd.V_drew)); exact HO_456000.out⟩, ⟨by (with_reducible repeat (first | apply Kd.V_alloc | apply Kd.V_drewN | apply Kd.V_drew)); exact HO_456001.out⟩, ⟨by (with_reducible repeat (first | apply Kd.V_alloc | apply Kd.V_drewN | apply Kd.V_drew)); exact HO_456002.out⟩, ⟨by (with_reducible repeat (first | apply Kd.V_alloc | apply Kd.V_drewN | apply Kd.V_drew)); exact HO_456003.out⟩, ⟨by (with_reducible repeat (first | apply Kd.V_alloc | apply Kd.V_drewN | apply Kd.V_drew)); exact HO_456004.out⟩, ⟨by (with_reducible repeat (first | apply Kd.V_alloc | apply Kd.V_drewN | apply Kd.V_drew)); exact HO_456005.out⟩, ⟨by (with_reducible repeat (first | refine blk_drewN ?_ _ | refine blk_drew ?_ | refine blk_alloc ?_ _)); exact BK455.out⟩, ⟨by (with_reducible repeat (first | refine blk_drewN ?_ _ | refine blk_drew ?_ | refine blk_alloc ?_ _)); exact BK456.out⟩, ⟨lb2 HB.out GE455.out GE456.out⟩⟩
     case round =>
      clear H'
      try clear c1
      try clear c2
      try clear p2
      try clear c3
      try clear c4
      try clear p4
      try clear q4
      try clear hx4
      try clear c5
      try clear p6
      try clear c11
      try clear c12
      try clear c12b0
      try clear c13
      try clear c13b0
      try clear c13b1
      try clear c14
      try clear c14b0
      try clear c14b1
      try clear c16
      try clear c17
      try clear c21
      try clear c24
      try clear c27
      try clear c27b0
      try clear c28
      try clear c28b0
      try clear c29
      try clear c29b0
      try clear c29b1
      try clear hcz18_0
      try clear hcz18_1
      try clear hcz18_2
      try clear hcz18_3
      try clear hcz18_4
      try clear hcz18_5
      try clear hcz20_0
      try clear hcz20_1
      try clear hcz20_2
      try clear hcz20_3
      try clear hcz22_0
      try clear hcz22_1
      try clear hcz22_2
      try clear hcz22_3
      try clear hcz22_4
      try clear hcz22_5
      try clear hfz18_0
      try clear hfz18_1
      try clear hfz18_2
      try clear hfz18_3
      try clear hfz18_4
      try clear hfz18_5
      try clear hfz20_0
      try clear hfz20_1
      try clear hfz20_2
      try clear hfz20_3
      try clear hfz22_0
      try clear hfz22_1
      try clear hfz22_2
      try clear hfz22_3
      try clear hfz22_4
      try clear hfz22_5
      try clear hx459_0
      try clear p2
      try clear p459
      try clear p6
      try clear q459
      obtain ⟨x18_3, rfl, HA, HK3, HO_456000, HO_456001, HO_456002, HO_456003, HO_456004, HO_456005, BK455, BK456, HB⟩ := hrel
      cases gk with
      | zero => exact absurd HA.out (by simp [entaillaw24_GlobTells.l1])
      | succ k3 =>
       have H := HA.out
       clear HA
       simp only [entaillaw24_GlobTells.l1] at H
       by_cases c32 : x18_3 < (l3.length : Int)
       ·rw [if_pos c32] at H
        have c32b0 : decide (x18_3 < (l3.length : Int)) = true := decide_eq_true c32
        clear c32
        by_cases c33 : 0 ≤ x18_3
        rotate_left
        ·rw [if_neg c33] at H
         exact absurd H (by simp)
        rw [if_pos c33] at H
        have c33b0 : decide (0 ≤ x18_3) = true := decide_eq_true c33
        clear c33
        by_cases c34 : ((rdOf ByteArray.empty l3 x18_3).size : Int) > 60
        rotate_left
        ·rw [if_neg c34] at H
         have c34b0 : decide (60 < ((rdOf ByteArray.empty l3 x18_3).size : Int)) = false := decide_eq_false c34
         have c34b1 : decide (60 < (rdOf ByteArray.empty l3 x18_3).size) = false := decide_eq_false (by omega)
         clear c34
         have H' := Aside0.mk H
         clear H
         have p461 : 0 ≤ (x18_3 : Int) := of_decide_eq_true (by first | (with_reducible assumption) | assumption)
         have q461 : x18_3 < (l3.length : Int) := of_decide_eq_true (by first | (with_reducible assumption) | assumption)
         obtain ⟨ad461, e461, hx461_0⟩ := Kd.at_string HR3.out x18_3 p461 q461
         cases e461
         replace hx461_0 := (HB.out.cell (World.block_lt_of_cell? w _ hx461_0)).trans hx461_0
         replace p461 := eq_true p461
         replace q461 := eq_true q461
         go_wp2
         go_roundg k3
         case measure => have := HJ8.out; have := HK2.out; have := HK3.out; omega
         case rel => exact ⟨(wrap64 (x18_3 + 1)), (by first | rfl | (simp; done) | (simp [*]; done)), H', ⟨by have := HJ8.out; have := HK2.out; have := HK3.out; omega⟩, ⟨by (with_reducible repeat (first | apply Kd.V_alloc | apply Kd.V_drewN | apply Kd.V_drew)); exact HO_456000.out⟩, ⟨by (with_reducible repeat (first | apply Kd.V_alloc | apply Kd.V_drewN | apply Kd.V_drew)); exact HO_456001.out⟩, ⟨by (with_reducible repeat (first | apply Kd.V_alloc | apply Kd.V_drewN | apply Kd.V_drew)); exact HO_456002.out⟩, ⟨by (with_reducible repeat (first | apply Kd.V_alloc | apply Kd.V_drewN | apply Kd.V_drew)); exact HO_456003.out⟩, ⟨by (with_reducible repeat (first | apply Kd.V_alloc | apply Kd.V_drewN | apply Kd.V_drew)); exact HO_456004.out⟩, ⟨by (with_reducible repeat (first | apply Kd.V_alloc | apply Kd.V_drewN | apply Kd.V_drew)); exact HO_456005.out⟩, ⟨by (with_reducible repeat (first | refine blk_drewN ?_ _ | refine blk_drew ?_ | refine blk_alloc ?_ _)); exact BK455.out⟩, ⟨by (with_reducible repeat (first | refine blk_drewN ?_ _ | refine blk_drew ?_ | refine blk_alloc ?_ _)); exact BK456.out⟩, ⟨lb2 HB.out GE455.out GE456.out⟩⟩
        rw [if_pos c34] at H
        have c34b0 : decide (60 < ((rdOf ByteArray.empty l3 x18_3).size : Int)) = true := decide_eq_true c34
        have c34b1 : decide (60 < (rdOf ByteArray.empty l3 x18_3).size) = true := decide_eq_true (by omega)
        clear c34
        replace H := Option.bind_eq_some_iff.mp H
        obtain ⟨t462, A350, H⟩ := H
        have A35 := Aside0.mk A350
        clear A350
        obtain rfl := Option.some.inj H
        have p461 : 0 ≤ (x18_3 : Int) := of_decide_eq_true (by first | (with_reducible assumption) | assumption)
        have q461 : x18_3 < (l3.length : Int) := of_decide_eq_true (by first | (with_reducible assumption) | assumption)
        obtain ⟨ad461, e461, hx461_0⟩ := Kd.at_string HR3.out x18_3 p461 q461
        cases e461
        replace hx461_0 := (HB.out.cell (World.block_lt_of_cell? w _ hx461_0)).trans hx461_0
        replace p461 := eq_true p461
        replace q461 := eq_true q461
        go_wp2_with (first | ((with_reducible refine gate_callee (f := 11) rfl ?_); refine goesL_ (some 81) rfl rfl Try.func11 (by kernel_rfl) rfl #[] rfl (by (try simp only [List.map_toArray, List.map_cons, List.map_nil]); first | done | rfl | (simp only [List.length_drop, List.length_take]; rfl)) ?_; (with_reducible refine (entaillaw24_awake.calls k3  t462 _ A35.out).mono ?_); rintro e w36 ⟨rfl, hb⟩; refine ⟨_, rfl, ?_⟩; replace HO_456000 := Aside0.mk (Kd.V_below (lV HO_456000.out) hb); replace HO_456001 := Aside0.mk (Kd.V_below (lV HO_456001.out) hb); replace HO_456002 := Aside0.mk (Kd.V_below (lV HO_456002.out) hb); replace HO_456003 := Aside0.mk (Kd.V_below (lV HO_456003.out) hb); replace HO_456004 := Aside0.mk (Kd.V_below (lV HO_456004.out) hb); replace HO_456005 := Aside0.mk (Kd.V_below (lV HO_456005.out) hb); replace BK455 := Aside0.mk (blk_below (g := gb455) (o := .cells #[.slice A4_0 l4_0.length c4_0, .slice A4_1 l4_1.length c4_1, .slice A4_2 l4_2.length c4_2, .slice A4_3 l4_3.length c4_3, .slice A4_4 l4_4.length c4_4, .slice A4_5 l4_5.length c4_5] 28 (0, 0)) (lk BK455.out) hb); replace BK456 := Aside0.mk (blk_below (g := gb456) (o := .cells #[.bool a6_0, .string a6_1, .string a6_2, .string a6_3] 31 (0, 0)) (lk BK456.out) hb); replace HB := Aside0.mk (below_step (lb2 HB.out GE455.out GE456.out) hb); (try clear hb); (try clear hb2); (try clear hk); (try clear hi)))
        go_ret
        exact ⟨by first | rfl | (simp [errW_none, errW_some] <;> rfl) | (simp [*, errW_none, errW_some] <;> rfl), lb2 HB.out GE455.out GE456.out⟩
       rw [if_neg c32] at H
       have c32b0 : decide (x18_3 < (l3.length : Int)) = false := decide_eq_false c32
       clear c32
       have HC37 := Aside0.mk H
       clear H
       go_upto_region 13 with (fail)
       go_cut [98] (fun v98 wc => ∃ (kq : Nat) (x98_36 : Bool), v98 = .bool x98_36 ∧ Aside0 (entaillaw24_GlobTells.j3 kq l5 a7 x98_36 l4_0 l4_1 l4_2 l4_3 l4_4 l4_5 a6_0 a6_1 a6_2 a6_3 = some r) ∧ Aside0 (kq ≤ k3) ∧ Aside0 (Kd.V Kd.string 9 wc w.heap.size (fun k_ => ((P4_0_ k_ ∨ P4_1_ k_ ∨ P4_2_ k_ ∨ P4_3_ k_ ∨ P4_4_ k_ ∨ P4_5_ k_) ∨ w.heap.size ≤ k_) ∧ k_ ≠ gb455 ∧ k_ ≠ gb456) (.slice A4_0 l4_0.length c4_0) l4_0) ∧ Aside0 (Kd.V Kd.string 9 wc w.heap.size (fun k_ => ((P4_0_ k_ ∨ P4_1_ k_ ∨ P4_2_ k_ ∨ P4_3_ k_ ∨ P4_4_ k_ ∨ P4_5_ k_) ∨ w.heap.size ≤ k_) ∧ k_ ≠ gb455 ∧ k_ ≠ gb456) (.slice A4_1 l4_1.length c4_1) l4_1) ∧ Aside0 (Kd.V Kd.string 9 wc w.heap.size (fun k_ => ((P4_0_ k_ ∨ P4_1_ k_ ∨ P4_2_ k_ ∨ P4_3_ k_ ∨ P4_4_ k_ ∨ P4_5_ k_) ∨ w.heap.size ≤ k_) ∧ k_ ≠ gb455 ∧ k_ ≠ gb456) (.slice A4_2 l4_2.length c4_2) l4_2) ∧ Aside0 (Kd.V k36 36 wc w.heap.size (fun k_ => ((P4_0_ k_ ∨ P4_1_ k_ ∨ P4_2_ k_ ∨ P4_3_ k_ ∨ P4_4_ k_ ∨ P4_5_ k_) ∨ w.heap.size ≤ k_) ∧ k_ ≠ gb455 ∧ k_ ≠ gb456) (.slice A4_3 l4_3.length c4_3) l4_3) ∧ Aside0 (Kd.V k34 34 wc w.heap.size (fun k_ => ((P4_0_ k_ ∨ P4_1_ k_ ∨ P4_2_ k_ ∨ P4_3_ k_ ∨ P4_4_ k_ ∨ P4_5_ k_) ∨ w.heap.size ≤ k_) ∧ k_ ≠ gb455 ∧ k_ ≠ gb456) (.slice A4_4 l4_4.length c4_4) l4_4) ∧ Aside0 (Kd.V k51 51 wc w.heap.size (fun k_ => ((P4_0_ k_ ∨ P4_1_ k_ ∨ P4_2_ k_ ∨ P4_3_ k_ ∨ P4_4_ k_ ∨ P4_5_ k_) ∨ w.heap.size ≤ k_) ∧ k_ ≠ gb455 ∧ k_ ≠ gb456) (.slice A4_5 l4_5.length c4_5) l4_5) ∧ Aside0 (wc.heap[gb455]? = some (.cells #[(.slice A4_0 l4_0.length c4_0), (.slice A4_1 l4_1.length c4_1), (.slice A4_2 l4_2.length c4_2), (.slice A4_3 l4_3.length c4_3), (.slice A4_4 l4_4.length c4_4), (.slice A4_5 l4_5.length c4_5)] 28 (0, 0))) ∧ Aside0 (wc.heap[gb456]? = some (.cells #[.bool a6_0, .string a6_1, .string a6_2, .string a6_3] 31 (0, 0))) ∧ Aside0 (Below w.heap.size w wc))
       case first =>
        have H := HC37.out
        clear HC37
        replace H := Option.bind_eq_some_iff.mp H
        obtain ⟨t463, A380, H⟩ := H
        have A38 := Aside0.mk A380
        clear A380
        replace H := Option.bind_eq_some_iff.mp H
        obtain ⟨t464, A390, H⟩ := H
        have A39 := Aside0.mk A390
        clear A390
        by_cases c40 : (t463 != t464) = true
        ·rw [if_pos c40] at H
         have c40b0 : (t463 != t464) = true := c40
         (try (have c40b1 : decide (t463 = t464) = false := by simpa using c40))
         (try (have c40b2 : (t463 == t464) = false := by simpa using c40))
         (try (have c40b3 : ¬ (t463 = t464) := by simpa using c40))
         clear c40
         (first | rw [c40b0] | (simp only [i64_w, i32_w]; rw [c40b0]) | skip)
         have H' := Aside0.mk H
         clear H
         go_wp2_with (first | ((with_reducible refine gate_callee (f := 13) rfl ?_); refine goesL_ (some 84) rfl rfl Try.func13 (by kernel_rfl) rfl #[.string a0, .string a1] rfl (by (try simp only [List.map_toArray, List.map_cons, List.map_nil]); first | done | rfl | (simp only [List.length_drop, List.length_take]; rfl)) ?_; (with_reducible refine (glob_Match.calls a0 a1 t463 _ A38.out).mono ?_); rintro e w' ⟨rfl, ⟨nd, rfl⟩⟩; refine ⟨_, rfl, ?_⟩) | ((with_reducible refine gate_callee (f := 14) rfl ?_); refine goesL_ (some 87) rfl rfl Try.func14 (by kernel_rfl) rfl #[.string a0, .string a1] rfl (by (try simp only [List.map_toArray, List.map_cons, List.map_nil]); first | done | rfl | (simp only [List.length_drop, List.length_take]; rfl)) ?_; (with_reducible refine (entailref22_Match.calls k3 a0 a1 t464 _ A39.out).mono ?_); rintro e w' ⟨rfl, ⟨nd, rfl⟩⟩; refine ⟨_, rfl, ?_⟩))
         go_meet
         case rel => exact ⟨_, (true), (by first | rfl | (simp; done) | (simp [*]; done)), H', ⟨by have := HJ8.out; have := HK2.out; have := HK3.out; first | omega | exact Nat.le_refl _⟩, ⟨by (with_reducible repeat (first | apply Kd.V_alloc | apply Kd.V_drewN | apply Kd.V_drew)); exact HO_456000.out⟩, ⟨by (with_reducible repeat (first | apply Kd.V_alloc | apply Kd.V_drewN | apply Kd.V_drew)); exact HO_456001.out⟩, ⟨by (with_reducible repeat (first | apply Kd.V_alloc | apply Kd.V_drewN | apply Kd.V_drew)); exact HO_456002.out⟩, ⟨by (with_reducible repeat (first | apply Kd.V_alloc | apply Kd.V_drewN | apply Kd.V_drew)); exact HO_456003.out⟩, ⟨by (with_reducible repeat (first | apply Kd.V_alloc | apply Kd.V_drewN | apply Kd.V_drew)); exact HO_456004.out⟩, ⟨by (with_reducible repeat (first | apply Kd.V_alloc | apply Kd.V_drewN | apply Kd.V_drew)); exact HO_456005.out⟩, ⟨by (with_reducible repeat (first | refine blk_drewN ?_ _ | refine blk_drew ?_ | refine blk_alloc ?_ _)); exact BK455.out⟩, ⟨by (with_reducible repeat (first | refine blk_drewN ?_ _ | refine blk_drew ?_ | refine blk_alloc ?_ _)); exact BK456.out⟩, ⟨lb2 HB.out GE455.out GE456.out⟩⟩
        rw [if_neg c40] at H
        have c40b0 : (t463 != t464) = false := by simpa using c40
        (try (have c40b1 : decide (t463 = t464) = true := by simpa using c40))
        (try (have c40b2 : (t463 == t464) = true := by simpa using c40))
        clear c40
        (first | rw [c40b0] | (simp only [i64_w, i32_w]; rw [c40b0]) | skip)
        replace H := Option.bind_eq_some_iff.mp H
        obtain ⟨t465, A410, H⟩ := H
        have A41 := Aside0.mk A410
        clear A410
        replace H := Option.bind_eq_some_iff.mp H
        obtain ⟨t468, A420, H⟩ := H
        have A42 := Aside0.mk A420
        clear A420
        replace H := Option.bind_eq_some_iff.mp H
        obtain ⟨t471, A430, H⟩ := H
        have A43 := Aside0.mk A430
        clear A430
        have H' := Aside0.mk H
        clear H
        go_wp2_with (first | ((with_reducible refine gate_callee (f := 13) rfl ?_); refine goesL_ (some 84) rfl rfl Try.func13 (by kernel_rfl) rfl #[.string a0, .string a1] rfl (by (try simp only [List.map_toArray, List.map_cons, List.map_nil]); first | done | rfl | (simp only [List.length_drop, List.length_take]; rfl)) ?_; (with_reducible refine (glob_Match.calls a0 a1 t463 _ A38.out).mono ?_); rintro e w' ⟨rfl, ⟨nd, rfl⟩⟩; refine ⟨_, rfl, ?_⟩) | ((with_reducible refine gate_callee (f := 14) rfl ?_); refine goesL_ (some 87) rfl rfl Try.func14 (by kernel_rfl) rfl #[.string a0, .string a1] rfl (by (try simp only [List.map_toArray, List.map_cons, List.map_nil]); first | done | rfl | (simp only [List.length_drop, List.length_take]; rfl)) ?_; (with_reducible refine (entailref22_Match.calls k3 a0 a1 t464 _ A39.out).mono ?_); rintro e w' ⟨rfl, ⟨nd, rfl⟩⟩; refine ⟨_, rfl, ?_⟩) | (go_at_call 16; (with_reducible refine (glob_Over.calls k3 _ _ l2 _ _ l3 t465 _ ?side1 ?side2 ?side3 ?side4 A41.out).mono ?_); (case side1 => exact lC (Kd.C_below HR2.out (lb2 HB.out GE455.out GE456.out))); (case side2 => exact HC2.out); (case side3 => exact lC (Kd.C_below HR3.out (lb2 HB.out GE455.out GE456.out))); (case side4 => exact HC3.out); rintro e w44 ⟨v466, rfl, ho0, hb⟩; replace HO_456000 := Aside0.mk (Kd.V_elder' (lV HO_456000.out) (Kd.R_base ho0) hb); replace HO_456001 := Aside0.mk (Kd.V_elder' (lV HO_456001.out) (Kd.R_base ho0) hb); replace HO_456002 := Aside0.mk (Kd.V_elder' (lV HO_456002.out) (Kd.R_base ho0) hb); replace HO_456003 := Aside0.mk (Kd.V_elder' (lV HO_456003.out) (Kd.R_base ho0) hb); replace HO_456004 := Aside0.mk (Kd.V_elder' (lV HO_456004.out) (Kd.R_base ho0) hb); replace HO_456005 := Aside0.mk (Kd.V_elder' (lV HO_456005.out) (Kd.R_base ho0) hb); have HO467 := Aside0.mk (Kd.R_lower (Kd.R_newM (M := fun k_ => (w.heap.size ≤ k_)) ho0 (below_size (lb2 HB.out GE455.out GE456.out)) (fun k_ h_ => h_)) (below_size (lb2 HB.out GE455.out GE456.out))); replace BK455 := Aside0.mk (blk_below (g := gb455) (o := .cells #[.slice A4_0 l4_0.length c4_0, .slice A4_1 l4_1.length c4_1, .slice A4_2 l4_2.length c4_2, .slice A4_3 l4_3.length c4_3, .slice A4_4 l4_4.length c4_4, .slice A4_5 l4_5.length c4_5] 28 (0, 0)) (lk BK455.out) hb); replace BK456 := Aside0.mk (blk_below (g := gb456) (o := .cells #[.bool a6_0, .string a6_1, .string a6_2, .string a6_3] 31 (0, 0)) (lk BK456.out) hb); replace HB := Aside0.mk (below_step (lb2 HB.out GE455.out GE456.out) hb); (try clear hb); (try clear hb2); (try clear hk); (try clear hi); (try clear ho0)) | (go_at_call 17; (with_reducible refine (entailref22_Over.calls k3 _ _ l2 _ _ l3 t468 _ ?side1 ?side2 ?side3 ?side4 A42.out).mono ?_); (case side1 => exact lC (Kd.C_below HR2.out HB.out)); (case side2 => exact HC2.out); (case side3 => exact lC (Kd.C_below HR3.out HB.out)); (case side4 => exact HC3.out); rintro e w45 ⟨v469, rfl, ho0, hb⟩; replace HO_456000 := Aside0.mk (Kd.V_elder' (lV HO_456000.out) (Kd.R_base ho0) hb); replace HO_456001 := Aside0.mk (Kd.V_elder' (lV HO_456001.out) (Kd.R_base ho0) hb); replace HO_456002 := Aside0.mk (Kd.V_elder' (lV HO_456002.out) (Kd.R_base ho0) hb); replace HO_456003 := Aside0.mk (Kd.V_elder' (lV HO_456003.out) (Kd.R_base ho0) hb); replace HO_456004 := Aside0.mk (Kd.V_elder' (lV HO_456004.out) (Kd.R_base ho0) hb); replace HO_456005 := Aside0.mk (Kd.V_elder' (lV HO_456005.out) (Kd.R_base ho0) hb); have HO470 := Aside0.mk (Kd.R_lower (Kd.R_new' (Kd.R_newM (M := fun k_ => (w.heap.size ≤ k_)) ho0 (below_size (lb2 HB.out GE455.out GE456.out)) (fun k_ h_ => h_)) (Kd.R_lt (lR HO467.out))) (below_size (lb2 HB.out GE455.out GE456.out))); replace HO467 := Aside0.mk (Kd.R_elder' (lR HO467.out) (Kd.R_base ho0) hb); replace BK455 := Aside0.mk (blk_below (g := gb455) (o := .cells #[.slice A4_0 l4_0.length c4_0, .slice A4_1 l4_1.length c4_1, .slice A4_2 l4_2.length c4_2, .slice A4_3 l4_3.length c4_3, .slice A4_4 l4_4.length c4_4, .slice A4_5 l4_5.length c4_5] 28 (0, 0)) (lk BK455.out) hb); replace BK456 := Aside0.mk (blk_below (g := gb456) (o := .cells #[.bool a6_0, .string a6_1, .string a6_2, .string a6_3] 31 (0, 0)) (lk BK456.out) hb); replace HB := Aside0.mk (below_step (lb2 HB.out GE455.out GE456.out) hb); (try clear hb); (try clear hb2); (try clear hk); (try clear hi); (try clear ho0); obtain ⟨Ao46, co46, eo46⟩ := Kd.R_slice HO467.out; subst eo46; obtain ⟨Ao47, co47, eo47⟩ := Kd.R_slice HO470.out; subst eo47) | (go_at_call 15; (with_reducible refine (entailref1_SameTexts.calls k3 _ _ t465 _ _ t468 t471 _ ?side1 ?side2 ?side3 ?side4 A43.out).mono ?_); (case side1 => exact lC (Kd.R_reads' HO467.out).2.2); (case side2 => exact (Kd.R_reads' HO467.out).2.1); (case side3 => exact lC (Kd.R_reads' HO470.out).2.2); (case side4 => exact (Kd.R_reads' HO470.out).2.1); rintro e w' ⟨rfl, ⟨nd, rfl⟩⟩))
        go_meet
        case rel => exact ⟨_, (!t471), (by first | rfl | (simp; done) | (simp [*]; done)), H', ⟨by have := HJ8.out; have := HK2.out; have := HK3.out; first | omega | exact Nat.le_refl _⟩, ⟨by (with_reducible repeat (first | apply Kd.V_alloc | apply Kd.V_drewN | apply Kd.V_drew)); exact Kd.V_mono HO_456000.out (fun _ hk => ⟨hk.1.1.1, ⟨hk.1.1.2.1, hk.1.1.2.2⟩⟩)⟩, ⟨by (with_reducible repeat (first | apply Kd.V_alloc | apply Kd.V_drewN | apply Kd.V_drew)); exact Kd.V_mono HO_456001.out (fun _ hk => ⟨hk.1.1.1, ⟨hk.1.1.2.1, hk.1.1.2.2⟩⟩)⟩, ⟨by (with_reducible repeat (first | apply Kd.V_alloc | apply Kd.V_drewN | apply Kd.V_drew)); exact Kd.V_mono HO_456002.out (fun _ hk => ⟨hk.1.1.1, ⟨hk.1.1.2.1, hk.1.1.2.2⟩⟩)⟩, ⟨by (with_reducible repeat (first | apply Kd.V_alloc | apply Kd.V_drewN | apply Kd.V_drew)); exact Kd.V_mono HO_456003.out (fun _ hk => ⟨hk.1.1.1, ⟨hk.1.1.2.1, hk.1.1.2.2⟩⟩)⟩, ⟨by (with_reducible repeat (first | apply Kd.V_alloc | apply Kd.V_drewN | apply Kd.V_drew)); exact Kd.V_mono HO_456004.out (fun _ hk => ⟨hk.1.1.1, ⟨hk.1.1.2.1, hk.1.1.2.2⟩⟩)⟩, ⟨by (with_reducible repeat (first | apply Kd.V_alloc | apply Kd.V_drewN | apply Kd.V_drew)); exact Kd.V_mono HO_456005.out (fun _ hk => ⟨hk.1.1.1, ⟨hk.1.1.2.1, hk.1.1.2.2⟩⟩)⟩, ⟨by (with_reducible repeat (first | refine blk_drewN ?_ _ | refine blk_drew ?_ | refine blk_alloc ?_ _)); exact BK455.out⟩, ⟨by (with_reducible repeat (first | refine blk_drewN ?_ _ | refine blk_drew ?_ | refine blk_alloc ?_ _)); exact BK456.out⟩, ⟨lb2 HB.out GE455.out GE456.out⟩⟩
       case rest =>
        clear HC37
        try clear c1
        try clear c2
        try clear p2
        try clear c3
        try clear c4
        try clear p4
        try clear q4
        try clear hx4
        try clear c5
        try clear p6
        try clear c11
        try clear c12
        try clear c12b0
        try clear c13
        try clear c13b0
        try clear c13b1
        try clear c14
        try clear c14b0
        try clear c14b1
        try clear c16
        try clear c17
        try clear c21
        try clear c24
        try clear c27
        try clear c27b0
        try clear c28
        try clear c28b0
        try clear c29
        try clear c29b0
        try clear c29b1
        try clear c32
        try clear c32b0
        try clear c33
        try clear c33b0
        try clear c34
        try clear c34b0
        try clear c34b1
        try clear c40
        try clear c40b0
        try clear c40b1
        try clear c40b2
        try clear p45
        try clear q45
        try clear hx45
        try clear p46
        try clear q46
        try clear hx46
        try clear hcz18_0
        try clear hcz18_1
        try clear hcz18_2
        try clear hcz18_3
        try clear hcz18_4
        try clear hcz18_5
        try clear hcz20_0
        try clear hcz20_1
        try clear hcz20_2
        try clear hcz20_3
        try clear hcz22_0
        try clear hcz22_1
        try clear hcz22_2
        try clear hcz22_3
        try clear hcz22_4
        try clear hcz22_5
        try clear hfz18_0
        try clear hfz18_1
        try clear hfz18_2
        try clear hfz18_3
        try clear hfz18_4
        try clear hfz18_5
        try clear hfz20_0
        try clear hfz20_1
        try clear hfz20_2
        try clear hfz20_3
        try clear hfz22_0
        try clear hfz22_1
        try clear hfz22_2
        try clear hfz22_3
        try clear hfz22_4
        try clear hfz22_5
        try clear hx459_0
        try clear hx461_0
        try clear p2
        try clear p4
        try clear p459
        try clear p461
        try clear p6
        try clear q4
        try clear q459
        try clear q461
        obtain ⟨kq, x98_36, rfl, HA, HJ36, HO_456000, HO_456001, HO_456002, HO_456003, HO_456004, HO_456005, BK455, BK456, HB⟩ := hcut
        cases kq with
        | zero => exact absurd HA.out (by simp [entaillaw24_GlobTells.j3])
        | succ kj36 =>
         have H := HA.out
         clear HA
         simp only [entaillaw24_GlobTells.j3] at H
         by_cases c48 : x98_36 = true
         ·subst c48
          have H1 : (some false) = some r := by rw [if_pos rfl] at H; exact H
          clear H
          have H := H1
          clear H1
          obtain rfl := Option.some.inj H
          go_wp2
          go_ret
          exact ⟨by first | rfl | (simp [errW_none, errW_some] <;> rfl) | (simp [*, errW_none, errW_some] <;> rfl), lb2 HB.out GE455.out GE456.out⟩
         replace c48 := Bool.eq_false_iff.mpr c48
         subst c48
         have H1 : (entaillaw24_GlobTells.l2 kj36 l5 a7 0 l4_0 l4_1 l4_2 l4_3 l4_4 l4_5 a6_0 a6_1 a6_2 a6_3) = some r := by rw [if_neg (show ¬ (false = true) by decide)] at H; exact H
         clear H
         have H := H1
         clear H1
         have H' := Aside0.mk H
         clear H
         go_wp2
         go_loopg [19] kj36 (fun kq v19 w' => ∃ (x19_5 : Int) (x456000_5 : List ByteArray) (x456001_5 : List ByteArray) (x456002_5 : List ByteArray) (x456003_5 : List (S36)) (x456004_5 : List (S34)) (x456005_5 : List (S51)) (x457000_5 : Bool) (x457001_5 : ByteArray) (x457002_5 : ByteArray) (x457003_5 : ByteArray) (u456000 : Value) (u456001 : Value) (u456002 : Value) (u456003 : Value) (u456004 : Value) (u456005 : Value), v19 = .int .i64 x19_5 ∧ Aside0 (entaillaw24_GlobTells.l2 kq l5 a7 x19_5 x456000_5 x456001_5 x456002_5 x456003_5 x456004_5 x456005_5 x457000_5 x457001_5 x457002_5 x457003_5 = some r) ∧ Aside0 (kq ≤ kj36) ∧ Aside0 (Kd.V Kd.string 9 w' w.heap.size (fun k_ => ((P4_0_ k_ ∨ P4_1_ k_ ∨ P4_2_ k_ ∨ P4_3_ k_ ∨ P4_4_ k_ ∨ P4_5_ k_) ∨ w.heap.size ≤ k_) ∧ k_ ≠ gb455 ∧ k_ ≠ gb456) u456000 x456000_5) ∧ Aside0 (Kd.V Kd.string 9 w' w.heap.size (fun k_ => ((P4_0_ k_ ∨ P4_1_ k_ ∨ P4_2_ k_ ∨ P4_3_ k_ ∨ P4_4_ k_ ∨ P4_5_ k_) ∨ w.heap.size ≤ k_) ∧ k_ ≠ gb455 ∧ k_ ≠ gb456) u456001 x456001_5) ∧ Aside0 (Kd.V Kd.string 9 w' w.heap.size (fun k_ => ((P4_0_ k_ ∨ P4_1_ k_ ∨ P4_2_ k_ ∨ P4_3_ k_ ∨ P4_4_ k_ ∨ P4_5_ k_) ∨ w.heap.size ≤ k_) ∧ k_ ≠ gb455 ∧ k_ ≠ gb456) u456002 x456002_5) ∧ Aside0 (Kd.V k36 36 w' w.heap.size (fun k_ => ((P4_0_ k_ ∨ P4_1_ k_ ∨ P4_2_ k_ ∨ P4_3_ k_ ∨ P4_4_ k_ ∨ P4_5_ k_) ∨ w.heap.size ≤ k_) ∧ k_ ≠ gb455 ∧ k_ ≠ gb456) u456003 x456003_5) ∧ Aside0 (Kd.V k34 34 w' w.heap.size (fun k_ => ((P4_0_ k_ ∨ P4_1_ k_ ∨ P4_2_ k_ ∨ P4_3_ k_ ∨ P4_4_ k_ ∨ P4_5_ k_) ∨ w.heap.size ≤ k_) ∧ k_ ≠ gb455 ∧ k_ ≠ gb456) u456004 x456004_5) ∧ Aside0 (Kd.V k51 51 w' w.heap.size (fun k_ => ((P4_0_ k_ ∨ P4_1_ k_ ∨ P4_2_ k_ ∨ P4_3_ k_ ∨ P4_4_ k_ ∨ P4_5_ k_) ∨ w.heap.size ≤ k_) ∧ k_ ≠ gb455 ∧ k_ ≠ gb456) u456005 x456005_5) ∧ Aside0 (w'.heap[gb455]? = some (.cells #[u456000, u456001, u456002, u456003, u456004, u456005] 28 (0, 0))) ∧ Aside0 (w'.heap[gb456]? = some (.cells #[.bool x457000_5, .string x457001_5, .string x457002_5, .string x457003_5] 31 (0, 0))) ∧ Aside0 (Below w.heap.size w w'))
         case atStart => exact ⟨(0), (l4_0), (l4_1), (l4_2), (l4_3), (l4_4), (l4_5), (a6_0), (a6_1), (a6_2), (a6_3), (.slice A4_0 l4_0.length c4_0), (.slice A4_1 l4_1.length c4_1), (.slice A4_2 l4_2.length c4_2), (.slice A4_3 l4_3.length c4_3), (.slice A4_4 l4_4.length c4_4), (.slice A4_5 l4_5.length c4_5), (by first | rfl | (simp; done) | (simp [*]; done)), H', ⟨Nat.le_refl _⟩, ⟨by (with_reducible repeat (first | apply Kd.V_alloc | apply Kd.V_drewN | apply Kd.V_drew)); exact HO_456000.out⟩, ⟨by (with_reducible repeat (first | apply Kd.V_alloc | apply Kd.V_drewN | apply Kd.V_drew)); exact HO_456001.out⟩, ⟨by (with_reducible repeat (first | apply Kd.V_alloc | apply Kd.V_drewN | apply Kd.V_drew)); exact HO_456002.out⟩, ⟨by (with_reducible repeat (first | apply Kd.V_alloc | apply Kd.V_drewN | apply Kd.V_drew)); exact HO_456003.out⟩, ⟨by (with_reducible repeat (first | apply Kd.V_alloc | apply Kd.V_drewN | apply Kd.V_drew)); exact HO_456004.out⟩, ⟨by (with_reducible repeat (first | apply Kd.V_alloc | apply Kd.V_drewN | apply Kd.V_drew)); exact HO_456005.out⟩, ⟨by (with_reducible repeat (first | refine blk_drewN ?_ _ | refine blk_drew ?_ | refine blk_alloc ?_ _)); exact BK455.out⟩, ⟨by (with_reducible repeat (first | refine blk_drewN ?_ _ | refine blk_drew ?_ | refine blk_alloc ?_ _)); exact BK456.out⟩, ⟨lb2 HB.out GE455.out GE456.out⟩⟩
         case round =>
          clear H'
          try clear c1
          try clear c2
          try clear p2
          try clear c3
          try clear c4
          try clear p4
          try clear q4
          try clear hx4
          try clear c5
          try clear p6
          try clear c11
          try clear c12
          try clear c12b0
          try clear c13
          try clear c13b0
          try clear c13b1
          try clear c14
          try clear c14b0
          try clear c14b1
          try clear c16
          try clear c17
          try clear c21
          try clear c24
          try clear c27
          try clear c27b0
          try clear c28
          try clear c28b0
          try clear c29
          try clear c29b0
          try clear c29b1
          try clear c32
          try clear c32b0
          try clear c33
          try clear c33b0
          try clear c34
          try clear c34b0
          try clear c34b1
          try clear c40
          try clear c40b0
          try clear c40b1
          try clear c40b2
          try clear p45
          try clear q45
          try clear hx45
          try clear p46
          try clear q46
          try clear hx46
          try clear c48
          try clear hcz18_0
          try clear hcz18_1
          try clear hcz18_2
          try clear hcz18_3
          try clear hcz18_4
          try clear hcz18_5
          try clear hcz20_0
          try clear hcz20_1
          try clear hcz20_2
          try clear hcz20_3
          try clear hcz22_0
          try clear hcz22_1
          try clear hcz22_2
          try clear hcz22_3
          try clear hcz22_4
          try clear hcz22_5
          try clear hfz18_0
          try clear hfz18_1
          try clear hfz18_2
          try clear hfz18_3
          try clear hfz18_4
          try clear hfz18_5
          try clear hfz20_0
          try clear hfz20_1
          try clear hfz20_2
          try clear hfz20_3
          try clear hfz22_0
          try clear hfz22_1
          try clear hfz22_2
          try clear hfz22_3
          try clear hfz22_4
          try clear hfz22_5
          try clear hx459_0
          try clear hx461_0
          try clear p2
          try clear p4
          try clear p45
          try clear p459
          try clear p46
          try clear p461
          try clear p6
          try clear q4
          try clear q45
          try clear q459
          try clear q46
          try clear q461
          obtain ⟨x19_5, x456000_5, x456001_5, x456002_5, x456003_5, x456004_5, x456005_5, x457000_5, x457001_5, x457002_5, x457003_5, u456000, u456001, u456002, u456003, u456004, u456005, rfl, HA, HK5, HO_456000, HO_456001, HO_456002, HO_456003, HO_456004, HO_456005, BK455, BK456, HB⟩ := hrel
          cases gk with
          | zero => exact absurd HA.out (by simp [entaillaw24_GlobTells.l2])
          | succ k5 =>
           have H := HA.out
           clear HA
           simp only [entaillaw24_GlobTells.l2] at H
           by_cases c49 : x19_5 < 2
           rotate_left
           ·rw [if_neg c49] at H
            have c49b0 : decide (x19_5 < 2) = false := decide_eq_false c49
            clear c49
            replace H := Option.bind_eq_some_iff.mp H
            obtain ⟨t498, A900, H⟩ := H
            have A90 := Aside0.mk A900
            clear A900
            replace H := Option.bind_eq_some_iff.mp H
            obtain ⟨t499, A910, H⟩ := H
            have A91 := Aside0.mk A910
            clear A910
            by_cases c92 : (t498 == t499) = true
            rotate_left
            ·rw [if_neg c92] at H
             have c92b0 : (t498 == t499) = false := by simpa using c92
             (try (have c92b1 : decide (t498 = t499) = false := by simpa using c92))
             (try (have c92b2 : (t498 == t499) = false := by simpa using c92))
             (try (have c92b3 : ¬ (t498 = t499) := by simpa using c92))
             clear c92
             obtain rfl := Option.some.inj H
             try go_wp2
             replace HO_456000 := Aside0.mk (Kd.V_drew HO_456000.out)
             replace HO_456001 := Aside0.mk (Kd.V_drew HO_456001.out)
             replace HO_456002 := Aside0.mk (Kd.V_drew HO_456002.out)
             replace HO_456003 := Aside0.mk (Kd.V_drew HO_456003.out)
             replace HO_456004 := Aside0.mk (Kd.V_drew HO_456004.out)
             replace HO_456005 := Aside0.mk (Kd.V_drew HO_456005.out)
             replace BK455 := Aside0.mk (blk_drew BK455.out)
             replace BK456 := Aside0.mk (blk_drew BK456.out)
             replace HB := Aside0.mk (below_drew1 HB.out)
             obtain ⟨Ao105, co105, eo105⟩ := Kd.V_slice HO_456000.out
             (first | subst eo105 | (injection eo105 with f1_ f2_ f3_; have f4_ := f1_.symm; have f5_ := f3_.symm; clear f1_ f2_ f3_; subst f4_; subst f5_))
             obtain ⟨Ao106, co106, eo106⟩ := Kd.V_slice HO_456001.out
             (first | subst eo106 | (injection eo106 with f1_ f2_ f3_; have f4_ := f1_.symm; have f5_ := f3_.symm; clear f1_ f2_ f3_; subst f4_; subst f5_))
             obtain ⟨Ao107, co107, eo107⟩ := Kd.V_slice HO_456002.out
             (first | subst eo107 | (injection eo107 with f1_ f2_ f3_; have f4_ := f1_.symm; have f5_ := f3_.symm; clear f1_ f2_ f3_; subst f4_; subst f5_))
             obtain ⟨Ao108, co108, eo108⟩ := Kd.V_slice HO_456003.out
             (first | subst eo108 | (injection eo108 with f1_ f2_ f3_; have f4_ := f1_.symm; have f5_ := f3_.symm; clear f1_ f2_ f3_; subst f4_; subst f5_))
             obtain ⟨Ao109, co109, eo109⟩ := Kd.V_slice HO_456004.out
             (first | subst eo109 | (injection eo109 with f1_ f2_ f3_; have f4_ := f1_.symm; have f5_ := f3_.symm; clear f1_ f2_ f3_; subst f4_; subst f5_))
             obtain ⟨Ao110, co110, eo110⟩ := Kd.V_slice HO_456005.out
             (first | subst eo110 | (injection eo110 with f1_ f2_ f3_; have f4_ := f1_.symm; have f5_ := f3_.symm; clear f1_ f2_ f3_; subst f4_; subst f5_))
             refine start_ (n := 13) (S := fun w' => w'.cell? ⟨gb455, 0, none⟩ = some (.slice Ao105 x456000_5.length co105) ∧ w'.cell? ⟨gb455, 1, none⟩ = some (.slice Ao106 x456001_5.length co106) ∧ w'.cell? ⟨gb455, 2, none⟩ = some (.slice Ao107 x456002_5.length co107) ∧ w'.cell? ⟨gb455, 3, none⟩ = some (.slice Ao108 x456003_5.length co108) ∧ w'.cell? ⟨gb455, 4, none⟩ = some (.slice Ao109 x456004_5.length co109) ∧ w'.cell? ⟨gb455, 5, none⟩ = some (.slice Ao110 x456005_5.length co110) ∧ w'.cell? ⟨gb456, 0, none⟩ = some (.bool x457000_5) ∧ w'.cell? ⟨gb456, 1, none⟩ = some (.string x457001_5) ∧ w'.cell? ⟨gb456, 2, none⟩ = some (.string x457002_5) ∧ w'.cell? ⟨gb456, 3, none⟩ = some (.string x457003_5)) (ds := []) #[bF,bF,bF,bF,bF,bF,bF,bF,bF,bF,bF,bF,bF] (by kernel_rfl) rfl rfl ⟨(blk_cell BK455.out 0).trans rfl, (blk_cell BK455.out 1).trans rfl, (blk_cell BK455.out 2).trans rfl, (blk_cell BK455.out 3).trans rfl, (blk_cell BK455.out 4).trans rfl, (blk_cell BK455.out 5).trans rfl, (blk_cell BK456.out 0).trans rfl, (blk_cell BK456.out 1).trans rfl, (blk_cell BK456.out 2).trans rfl, (blk_cell BK456.out 3).trans rfl⟩ (fun hHeld => ?_); refine with_tabW entaillaw24_GlobTells.tab21 entaillaw24_GlobTells.bits21 (fun HT_ HW_ => ?_)
             generalize wr.drew = w104 at HO_456000 HO_456001 HO_456002 HO_456003 HO_456004 HO_456005 BK455 BK456 HB hHeld ⊢
             refine pure_ (i := 1) (N := some 140) (v := ?_) (a' := ?_) #[bF,bT,bF,bF,bF,bF,bF,bF,bF,bF,bF,bF,bF] rfl rfl (any_of HT_.out (by kernel_rfl)) (fun _ _ _ h => h) (Or.inl ⟨by rfl, ?_⟩) ?_ ?_
             rotate_left
             ·intro w'
              go_simp
              with_reducible rfl
             rotate_left
             ·simp only [Act.put, qA, qB, qC, i64_w, i32_w]
              rfl
             refine pure_ (i := 5) (N := some 144) (v := ?_) (a' := ?_) #[bF,bT,bF,bF,bF,bT,bF,bF,bF,bF,bF,bF,bF] rfl rfl (any_of HT_.out (by kernel_rfl)) (fun _ _ _ h => h) (Or.inl ⟨by rfl, ?_⟩) ?_ ?_
             rotate_left
             ·intro w'
              go_simp
              with_reducible rfl
             rotate_left
             ·simp only [Act.put, qA, qB, qC, i64_w, i32_w]
              rfl
             refine take_ (i := 0) (N := some 139) (v := ?_) (a' := ?_) #[bT,bT,bF,bF,bF,bT,bF,bF,bF,bF,bF,bF,bF] rfl rfl (take_ofW HT_.out HW_.out (by kernel_rfl)) (fun _ _ _ h => h) (Or.inl ⟨by rfl, ?_⟩) hHeld ?_ ?_
             rotate_left
             ·rintro w' ⟨s0, s1, s2, s3, s4, s5, s6, s7, s8, s9⟩
              go_simp
              with_reducible rfl
             rotate_left
             ·simp only [Act.put, qA, qB, qC, i64_w, i32_w]
              rfl
             refine take_ (i := 2) (N := some 141) (v := ?_) (a' := ?_) #[bT,bT,bT,bF,bF,bT,bF,bF,bF,bF,bF,bF,bF] rfl rfl (take_ofW HT_.out HW_.out (by kernel_rfl)) (fun _ _ _ h => h) (Or.inl ⟨by rfl, ?_⟩) hHeld ?_ ?_
             rotate_left
             ·rintro w' ⟨s0, s1, s2, s3, s4, s5, s6, s7, s8, s9⟩
              go_simp
              with_reducible rfl
             rotate_left
             ·simp only [Act.put, qA, qB, qC, i64_w, i32_w]
              rfl
             refine take_ (i := 4) (N := some 143) (v := ?_) (a' := ?_) #[bT,bT,bT,bF,bT,bT,bF,bF,bF,bF,bF,bF,bF] rfl rfl (take_ofW HT_.out HW_.out (by kernel_rfl)) (fun _ _ _ h => h) (Or.inl ⟨by rfl, ?_⟩) hHeld ?_ ?_
             rotate_left
             ·rintro w' ⟨s0, s1, s2, s3, s4, s5, s6, s7, s8, s9⟩
              go_simp
              with_reducible rfl
             rotate_left
             ·simp only [Act.put, qA, qB, qC, i64_w, i32_w]
              rfl
             refine take_ (i := 6) (N := some 145) (v := ?_) (a' := ?_) #[bT,bT,bT,bF,bT,bT,bT,bF,bF,bF,bF,bF,bF] rfl rfl (take_ofW HT_.out HW_.out (by kernel_rfl)) (fun _ _ _ h => h) (Or.inl ⟨by rfl, ?_⟩) hHeld ?_ ?_
             rotate_left
             ·rintro w' ⟨s0, s1, s2, s3, s4, s5, s6, s7, s8, s9⟩
              go_simp
              with_reducible rfl
             rotate_left
             ·simp only [Act.put, qA, qB, qC, i64_w, i32_w]
              rfl
             refine one_ (i := 3) (N := some 142) #[bT,bT,bT,bT,bT,bT,bT,bF,bF,bF,bF,bF,bF] rfl rfl (one_of HT_.out (by kernel_rfl)) (by decide) (fun K hK => ?_)
             refine goes_ Try.func10 (by kernel_rfl) rfl #[.agg #[.slice Ao105 x456000_5.length co105, .slice Ao106 x456001_5.length co106, .slice Ao107 x456002_5.length co107, .slice Ao108 x456003_5.length co108, .slice Ao109 x456004_5.length co109, .slice Ao110 x456005_5.length co110], .string x457001_5, .string (⟨#[103]⟩ : ByteArray)] (by rfl) rfl rfl (by (try simp only [List.map_toArray, List.map_cons, List.map_nil]); first | done | rfl | (simp only [List.length_drop, List.length_take]; rfl)) ?_
             with_reducible refine (glob_In.calls k5 _ _ x456000_5 _ _ x456001_5 _ _ x456002_5 _ _ x456003_5 _ _ x456004_5 _ _ x456005_5 x457001_5 (⟨#[103]⟩ : ByteArray) t498 _ ?side1 ?side2 ?side3 ?side4 ?side5 ?side6 ?side7 ?side8 ?side9 ?side10 ?side11 ?side12 A90.out).mono ?_
             (case side1 => exact lC (Kd.V_reads' HO_456000.out).2.2)
             (case side2 => exact (Kd.V_reads' HO_456000.out).2.1)
             (case side3 => exact lC (Kd.V_reads' HO_456001.out).2.2)
             (case side4 => exact (Kd.V_reads' HO_456001.out).2.1)
             (case side5 => exact lC (Kd.V_reads' HO_456002.out).2.2)
             (case side6 => exact (Kd.V_reads' HO_456002.out).2.1)
             (case side7 => exact lC (Kd.V_reads' HO_456003.out).2.2)
             (case side8 => exact (Kd.V_reads' HO_456003.out).2.1)
             (case side9 => exact lC (Kd.V_reads' HO_456004.out).2.2)
             (case side10 => exact (Kd.V_reads' HO_456004.out).2.1)
             (case side11 => exact lC (Kd.V_reads' HO_456005.out).2.2)
             (case side12 => exact (Kd.V_reads' HO_456005.out).2.1)
             rintro e w111 ⟨rfl, hb⟩
             refine ⟨_, rfl, ?_⟩
             replace HO_456000 := Aside0.mk (Kd.V_below (lV HO_456000.out) hb)
             replace HO_456001 := Aside0.mk (Kd.V_below (lV HO_456001.out) hb)
             replace HO_456002 := Aside0.mk (Kd.V_below (lV HO_456002.out) hb)
             replace HO_456003 := Aside0.mk (Kd.V_below (lV HO_456003.out) hb)
             replace HO_456004 := Aside0.mk (Kd.V_below (lV HO_456004.out) hb)
             replace HO_456005 := Aside0.mk (Kd.V_below (lV HO_456005.out) hb)
             replace BK455 := Aside0.mk (blk_below (g := gb455) (o := .cells #[.slice Ao105 x456000_5.length co105, .slice Ao106 x456001_5.length co106, .slice Ao107 x456002_5.length co107, .slice Ao108 x456003_5.length co108, .slice Ao109 x456004_5.length co109, .slice Ao110 x456005_5.length co110] 28 (0, 0)) (lk BK455.out) hb)
             replace BK456 := Aside0.mk (blk_below (g := gb456) (o := .cells #[.bool x457000_5, .string x457001_5, .string x457002_5, .string x457003_5] 31 (0, 0)) (lk BK456.out) hb)
             replace HB := Aside0.mk (below_step (lb2 HB.out GE455.out GE456.out) hb)
             (try clear hb)
             (try clear hb2)
             (try clear hk)
             (try clear hi)
             refine hK.out _ _ ⟨(blk_cell BK455.out 0).trans rfl, (blk_cell BK455.out 1).trans rfl, (blk_cell BK455.out 2).trans rfl, (blk_cell BK455.out 3).trans rfl, (blk_cell BK455.out 4).trans rfl, (blk_cell BK455.out 5).trans rfl, (blk_cell BK456.out 0).trans rfl, (blk_cell BK456.out 1).trans rfl, (blk_cell BK456.out 2).trans rfl, (blk_cell BK456.out 3).trans rfl⟩ (fun hHeld => ?_)
             clear hK K
             refine norm_ (a' := ?_) ?_ ?_
             rotate_left
             ·show Act.put _ (some 142) _ = _
              simp only [Act.put, qA, qB, qC, i64_w, i32_w]
              rfl
             refine one_ (i := 7) (N := some 146) #[bT,bT,bT,bT,bT,bT,bT,bT,bF,bF,bF,bF,bF] rfl rfl (one_of HT_.out (by kernel_rfl)) (by decide) (fun K hK => ?_)
             refine goes_ Try.func19 (by kernel_rfl) rfl #[.agg #[.slice Ao105 x456000_5.length co105, .slice Ao106 x456001_5.length co106, .slice Ao107 x456002_5.length co107, .slice Ao108 x456003_5.length co108, .slice Ao109 x456004_5.length co109, .slice Ao110 x456005_5.length co110], .string x457001_5, .string (⟨#[103]⟩ : ByteArray)] (by rfl) rfl rfl (by (try simp only [List.map_toArray, List.map_cons, List.map_nil]); first | done | rfl | (simp only [List.length_drop, List.length_take]; rfl)) ?_
             with_reducible refine (entailref22_Inside.calls k5 _ _ x456000_5 _ _ x456001_5 _ _ x456002_5 _ _ x456003_5 _ _ x456004_5 _ _ x456005_5 x457001_5 (⟨#[103]⟩ : ByteArray) t499 _ ?side1 ?side2 ?side3 ?side4 ?side5 ?side6 ?side7 ?side8 ?side9 ?side10 ?side11 ?side12 A91.out).mono ?_
             (case side1 => exact lC (Kd.V_reads' HO_456000.out).2.2)
             (case side2 => exact (Kd.V_reads' HO_456000.out).2.1)
             (case side3 => exact lC (Kd.V_reads' HO_456001.out).2.2)
             (case side4 => exact (Kd.V_reads' HO_456001.out).2.1)
             (case side5 => exact lC (Kd.V_reads' HO_456002.out).2.2)
             (case side6 => exact (Kd.V_reads' HO_456002.out).2.1)
             (case side7 => exact lC (Kd.V_reads' HO_456003.out).2.2)
             (case side8 => exact (Kd.V_reads' HO_456003.out).2.1)
             (case side9 => exact lC (Kd.V_reads' HO_456004.out).2.2)
             (case side10 => exact (Kd.V_reads' HO_456004.out).2.1)
             (case side11 => exact lC (Kd.V_reads' HO_456005.out).2.2)
             (case side12 => exact (Kd.V_reads' HO_456005.out).2.1)
             rintro e w112 ⟨rfl, hb⟩
             refine ⟨_, rfl, ?_⟩
             replace HO_456000 := Aside0.mk (Kd.V_below (lV HO_456000.out) hb)
             replace HO_456001 := Aside0.mk (Kd.V_below (lV HO_456001.out) hb)
             replace HO_456002 := Aside0.mk (Kd.V_below (lV HO_456002.out) hb)
             replace HO_456003 := Aside0.mk (Kd.V_below (lV HO_456003.out) hb)
             replace HO_456004 := Aside0.mk (Kd.V_below (lV HO_456004.out) hb)
             replace HO_456005 := Aside0.mk (Kd.V_below (lV HO_456005.out) hb)
             replace BK455 := Aside0.mk (blk_below (g := gb455) (o := .cells #[.slice Ao105 x456000_5.length co105, .slice Ao106 x456001_5.length co106, .slice Ao107 x456002_5.length co107, .slice Ao108 x456003_5.length co108, .slice Ao109 x456004_5.length co109, .slice Ao110 x456005_5.length co110] 28 (0, 0)) (lk BK455.out) hb)
             replace BK456 := Aside0.mk (blk_below (g := gb456) (o := .cells #[.bool x457000_5, .string x457001_5, .string x457002_5, .string x457003_5] 31 (0, 0)) (lk BK456.out) hb)
             replace HB := Aside0.mk (below_step (lb2 HB.out GE455.out GE456.out) hb)
             (try clear hb)
             (try clear hb2)
             (try clear hk)
             (try clear hi)
             refine hK.out _ _ ⟨(blk_cell BK455.out 0).trans rfl, (blk_cell BK455.out 1).trans rfl, (blk_cell BK455.out 2).trans rfl, (blk_cell BK455.out 3).trans rfl, (blk_cell BK455.out 4).trans rfl, (blk_cell BK455.out 5).trans rfl, (blk_cell BK456.out 0).trans rfl, (blk_cell BK456.out 1).trans rfl, (blk_cell BK456.out 2).trans rfl, (blk_cell BK456.out 3).trans rfl⟩ (fun hHeld => ?_)
             clear hK K
             refine norm_ (a' := ?_) ?_ ?_
             rotate_left
             ·show Act.put _ (some 146) _ = _
              simp only [Act.put, qA, qB, qC, i64_w, i32_w]
              rfl
             refine pure_ (i := 8) (N := some 147) (v := ?_) (a' := ?_) #[bT,bT,bT,bT,bT,bT,bT,bT,bT,bF,bF,bF,bF] rfl rfl (any_of HT_.out (by kernel_rfl)) (fun _ _ _ h => h) (Or.inl ⟨by rfl, ?_⟩) ?_ ?_
             rotate_left
             ·intro w'
              go_simp
              with_reducible rfl
             rotate_left
             ·simp only [Act.put, qA, qB, qC, i64_w, i32_w]
              rfl
             refine pure_ (i := 9) (N := some 148) (v := ?_) (a' := ?_) #[bT,bT,bT,bT,bT,bT,bT,bT,bT,bT,bF,bF,bF] rfl rfl (any_of HT_.out (by kernel_rfl)) (fun _ _ _ h => h) (Or.inl ⟨by rfl, ?_⟩) ?_ ?_
             rotate_left
             ·intro w'
              go_simp
              with_reducible rfl
             rotate_left
             ·simp only [Act.put, qA, qB, qC, i64_w, i32_w]
              rfl
             refine pure_ (i := 10) (N := some 149) (v := undef) (a' := ?_) #[bT,bT,bT,bT,bT,bT,bT,bT,bT,bT,bT,bF,bF] rfl rfl (any_of HT_.out (by kernel_rfl)) (fun _ _ _ h => h) (Or.inr ⟨by rfl, rfl⟩) ?_ ?_
             rotate_left
             ·simp only [Act.put, qA, qB, qC, i64_w, i32_w]
              rfl
             refine pure_ (i := 11) (N := some 150) (v := ?_) (a' := ?_) #[bT,bT,bT,bT,bT,bT,bT,bT,bT,bT,bT,bT,bF] rfl rfl (any_of HT_.out (by kernel_rfl)) (fun _ _ _ h => h) (Or.inl ⟨by rfl, ?_⟩) ?_ ?_
             rotate_left
             ·intro w'
              go_simp
              with_reducible rfl
             rotate_left
             ·simp only [Act.put, qA, qB, qC, i64_w, i32_w]
              rfl
             refine pure_ (i := 12) (N := some 16) (v := ?_) (a' := ?_) #[bT,bT,bT,bT,bT,bT,bT,bT,bT,bT,bT,bT,bT] rfl rfl (any_of HT_.out (by kernel_rfl)) (fun _ _ _ h => h) (Or.inl ⟨by rfl, ?_⟩) ?_ ?_
             rotate_left
             ·intro w'
              go_simp
              with_reducible rfl
             rotate_left
             ·simp only [Act.put, qA, qB, qC, i64_w, i32_w]
              rfl
             refine done_ (done_of HT_.out (by kernel_rfl)) ?_
             try go_wp2
             go_ret
             exact ⟨by first | rfl | (simp [errW_none, errW_some] <;> rfl) | (simp [*, errW_none, errW_some] <;> rfl), lb2 HB.out GE455.out GE456.out⟩
            rw [if_pos c92] at H
            have c92b0 : (t498 == t499) = true := c92
            (try (have c92b1 : decide (t498 = t499) = true := by simpa using c92))
            (try (have c92b2 : (t498 == t499) = true := by simpa using c92))
            clear c92
            replace H := Option.bind_eq_some_iff.mp H
            obtain ⟨t500, A930, H⟩ := H
            have A93 := Aside0.mk A930
            clear A930
            obtain rfl := Option.some.inj H
            try go_wp2
            replace HO_456000 := Aside0.mk (Kd.V_drew HO_456000.out)
            replace HO_456001 := Aside0.mk (Kd.V_drew HO_456001.out)
            replace HO_456002 := Aside0.mk (Kd.V_drew HO_456002.out)
            replace HO_456003 := Aside0.mk (Kd.V_drew HO_456003.out)
            replace HO_456004 := Aside0.mk (Kd.V_drew HO_456004.out)
            replace HO_456005 := Aside0.mk (Kd.V_drew HO_456005.out)
            replace BK455 := Aside0.mk (blk_drew BK455.out)
            replace BK456 := Aside0.mk (blk_drew BK456.out)
            replace HB := Aside0.mk (below_drew1 HB.out)
            obtain ⟨Ao95, co95, eo95⟩ := Kd.V_slice HO_456000.out
            (first | subst eo95 | (injection eo95 with f1_ f2_ f3_; have f4_ := f1_.symm; have f5_ := f3_.symm; clear f1_ f2_ f3_; subst f4_; subst f5_))
            obtain ⟨Ao96, co96, eo96⟩ := Kd.V_slice HO_456001.out
            (first | subst eo96 | (injection eo96 with f1_ f2_ f3_; have f4_ := f1_.symm; have f5_ := f3_.symm; clear f1_ f2_ f3_; subst f4_; subst f5_))
            obtain ⟨Ao97, co97, eo97⟩ := Kd.V_slice HO_456002.out
            (first | subst eo97 | (injection eo97 with f1_ f2_ f3_; have f4_ := f1_.symm; have f5_ := f3_.symm; clear f1_ f2_ f3_; subst f4_; subst f5_))
            obtain ⟨Ao98, co98, eo98⟩ := Kd.V_slice HO_456003.out
            (first | subst eo98 | (injection eo98 with f1_ f2_ f3_; have f4_ := f1_.symm; have f5_ := f3_.symm; clear f1_ f2_ f3_; subst f4_; subst f5_))
            obtain ⟨Ao99, co99, eo99⟩ := Kd.V_slice HO_456004.out
            (first | subst eo99 | (injection eo99 with f1_ f2_ f3_; have f4_ := f1_.symm; have f5_ := f3_.symm; clear f1_ f2_ f3_; subst f4_; subst f5_))
            obtain ⟨Ao100, co100, eo100⟩ := Kd.V_slice HO_456005.out
            (first | subst eo100 | (injection eo100 with f1_ f2_ f3_; have f4_ := f1_.symm; have f5_ := f3_.symm; clear f1_ f2_ f3_; subst f4_; subst f5_))
            refine start_ (n := 13) (S := fun w' => w'.cell? ⟨gb455, 0, none⟩ = some (.slice Ao95 x456000_5.length co95) ∧ w'.cell? ⟨gb455, 1, none⟩ = some (.slice Ao96 x456001_5.length co96) ∧ w'.cell? ⟨gb455, 2, none⟩ = some (.slice Ao97 x456002_5.length co97) ∧ w'.cell? ⟨gb455, 3, none⟩ = some (.slice Ao98 x456003_5.length co98) ∧ w'.cell? ⟨gb455, 4, none⟩ = some (.slice Ao99 x456004_5.length co99) ∧ w'.cell? ⟨gb455, 5, none⟩ = some (.slice Ao100 x456005_5.length co100) ∧ w'.cell? ⟨gb456, 0, none⟩ = some (.bool x457000_5) ∧ w'.cell? ⟨gb456, 1, none⟩ = some (.string x457001_5) ∧ w'.cell? ⟨gb456, 2, none⟩ = some (.string x457002_5) ∧ w'.cell? ⟨gb456, 3, none⟩ = some (.string x457003_5)) (ds := []) #[bF,bF,bF,bF,bF,bF,bF,bF,bF,bF,bF,bF,bF] (by kernel_rfl) rfl rfl ⟨(blk_cell BK455.out 0).trans rfl, (blk_cell BK455.out 1).trans rfl, (blk_cell BK455.out 2).trans rfl, (blk_cell BK455.out 3).trans rfl, (blk_cell BK455.out 4).trans rfl, (blk_cell BK455.out 5).trans rfl, (blk_cell BK456.out 0).trans rfl, (blk_cell BK456.out 1).trans rfl, (blk_cell BK456.out 2).trans rfl, (blk_cell BK456.out 3).trans rfl⟩ (fun hHeld => ?_); refine with_tabW entaillaw24_GlobTells.tab21 entaillaw24_GlobTells.bits21 (fun HT_ HW_ => ?_)
            generalize wr.drew = w94 at HO_456000 HO_456001 HO_456002 HO_456003 HO_456004 HO_456005 BK455 BK456 HB hHeld ⊢
            refine pure_ (i := 1) (N := some 140) (v := ?_) (a' := ?_) #[bF,bT,bF,bF,bF,bF,bF,bF,bF,bF,bF,bF,bF] rfl rfl (any_of HT_.out (by kernel_rfl)) (fun _ _ _ h => h) (Or.inl ⟨by rfl, ?_⟩) ?_ ?_
            rotate_left
            ·intro w'
             go_simp
             with_reducible rfl
            rotate_left
            ·simp only [Act.put, qA, qB, qC, i64_w, i32_w]
             rfl
            refine pure_ (i := 5) (N := some 144) (v := ?_) (a' := ?_) #[bF,bT,bF,bF,bF,bT,bF,bF,bF,bF,bF,bF,bF] rfl rfl (any_of HT_.out (by kernel_rfl)) (fun _ _ _ h => h) (Or.inl ⟨by rfl, ?_⟩) ?_ ?_
            rotate_left
            ·intro w'
             go_simp
             with_reducible rfl
            rotate_left
            ·simp only [Act.put, qA, qB, qC, i64_w, i32_w]
             rfl
            refine take_ (i := 0) (N := some 139) (v := ?_) (a' := ?_) #[bT,bT,bF,bF,bF,bT,bF,bF,bF,bF,bF,bF,bF] rfl rfl (take_ofW HT_.out HW_.out (by kernel_rfl)) (fun _ _ _ h => h) (Or.inl ⟨by rfl, ?_⟩) hHeld ?_ ?_
            rotate_left
            ·rintro w' ⟨s0, s1, s2, s3, s4, s5, s6, s7, s8, s9⟩
             go_simp
             with_reducible rfl
            rotate_left
            ·simp only [Act.put, qA, qB, qC, i64_w, i32_w]
             rfl
            refine take_ (i := 2) (N := some 141) (v := ?_) (a' := ?_) #[bT,bT,bT,bF,bF,bT,bF,bF,bF,bF,bF,bF,bF] rfl rfl (take_ofW HT_.out HW_.out (by kernel_rfl)) (fun _ _ _ h => h) (Or.inl ⟨by rfl, ?_⟩) hHeld ?_ ?_
            rotate_left
            ·rintro w' ⟨s0, s1, s2, s3, s4, s5, s6, s7, s8, s9⟩
             go_simp
             with_reducible rfl
            rotate_left
            ·simp only [Act.put, qA, qB, qC, i64_w, i32_w]
             rfl
            refine take_ (i := 4) (N := some 143) (v := ?_) (a' := ?_) #[bT,bT,bT,bF,bT,bT,bF,bF,bF,bF,bF,bF,bF] rfl rfl (take_ofW HT_.out HW_.out (by kernel_rfl)) (fun _ _ _ h => h) (Or.inl ⟨by rfl, ?_⟩) hHeld ?_ ?_
            rotate_left
            ·rintro w' ⟨s0, s1, s2, s3, s4, s5, s6, s7, s8, s9⟩
             go_simp
             with_reducible rfl
            rotate_left
            ·simp only [Act.put, qA, qB, qC, i64_w, i32_w]
             rfl
            refine take_ (i := 6) (N := some 145) (v := ?_) (a' := ?_) #[bT,bT,bT,bF,bT,bT,bT,bF,bF,bF,bF,bF,bF] rfl rfl (take_ofW HT_.out HW_.out (by kernel_rfl)) (fun _ _ _ h => h) (Or.inl ⟨by rfl, ?_⟩) hHeld ?_ ?_
            rotate_left
            ·rintro w' ⟨s0, s1, s2, s3, s4, s5, s6, s7, s8, s9⟩
             go_simp
             with_reducible rfl
            rotate_left
            ·simp only [Act.put, qA, qB, qC, i64_w, i32_w]
             rfl
            refine one_ (i := 3) (N := some 142) #[bT,bT,bT,bT,bT,bT,bT,bF,bF,bF,bF,bF,bF] rfl rfl (one_of HT_.out (by kernel_rfl)) (by decide) (fun K hK => ?_)
            refine goes_ Try.func10 (by kernel_rfl) rfl #[.agg #[.slice Ao95 x456000_5.length co95, .slice Ao96 x456001_5.length co96, .slice Ao97 x456002_5.length co97, .slice Ao98 x456003_5.length co98, .slice Ao99 x456004_5.length co99, .slice Ao100 x456005_5.length co100], .string x457001_5, .string (⟨#[103]⟩ : ByteArray)] (by rfl) rfl rfl (by (try simp only [List.map_toArray, List.map_cons, List.map_nil]); first | done | rfl | (simp only [List.length_drop, List.length_take]; rfl)) ?_
            with_reducible refine (glob_In.calls k5 _ _ x456000_5 _ _ x456001_5 _ _ x456002_5 _ _ x456003_5 _ _ x456004_5 _ _ x456005_5 x457001_5 (⟨#[103]⟩ : ByteArray) t498 _ ?side1 ?side2 ?side3 ?side4 ?side5 ?side6 ?side7 ?side8 ?side9 ?side10 ?side11 ?side12 A90.out).mono ?_
            (case side1 => exact lC (Kd.V_reads' HO_456000.out).2.2)
            (case side2 => exact (Kd.V_reads' HO_456000.out).2.1)
            (case side3 => exact lC (Kd.V_reads' HO_456001.out).2.2)
            (case side4 => exact (Kd.V_reads' HO_456001.out).2.1)
            (case side5 => exact lC (Kd.V_reads' HO_456002.out).2.2)
            (case side6 => exact (Kd.V_reads' HO_456002.out).2.1)
            (case side7 => exact lC (Kd.V_reads' HO_456003.out).2.2)
            (case side8 => exact (Kd.V_reads' HO_456003.out).2.1)
            (case side9 => exact lC (Kd.V_reads' HO_456004.out).2.2)
            (case side10 => exact (Kd.V_reads' HO_456004.out).2.1)
            (case side11 => exact lC (Kd.V_reads' HO_456005.out).2.2)
            (case side12 => exact (Kd.V_reads' HO_456005.out).2.1)
            rintro e w101 ⟨rfl, hb⟩
            refine ⟨_, rfl, ?_⟩
            replace HO_456000 := Aside0.mk (Kd.V_below (lV HO_456000.out) hb)
            replace HO_456001 := Aside0.mk (Kd.V_below (lV HO_456001.out) hb)
            replace HO_456002 := Aside0.mk (Kd.V_below (lV HO_456002.out) hb)
            replace HO_456003 := Aside0.mk (Kd.V_below (lV HO_456003.out) hb)
            replace HO_456004 := Aside0.mk (Kd.V_below (lV HO_456004.out) hb)
            replace HO_456005 := Aside0.mk (Kd.V_below (lV HO_456005.out) hb)
            replace BK455 := Aside0.mk (blk_below (g := gb455) (o := .cells #[.slice Ao95 x456000_5.length co95, .slice Ao96 x456001_5.length co96, .slice Ao97 x456002_5.length co97, .slice Ao98 x456003_5.length co98, .slice Ao99 x456004_5.length co99, .slice Ao100 x456005_5.length co100] 28 (0, 0)) (lk BK455.out) hb)
            replace BK456 := Aside0.mk (blk_below (g := gb456) (o := .cells #[.bool x457000_5, .string x457001_5, .string x457002_5, .string x457003_5] 31 (0, 0)) (lk BK456.out) hb)
            replace HB := Aside0.mk (below_step (lb2 HB.out GE455.out GE456.out) hb)
            (try clear hb)
            (try clear hb2)
            (try clear hk)
            (try clear hi)
            refine hK.out _ _ ⟨(blk_cell BK455.out 0).trans rfl, (blk_cell BK455.out 1).trans rfl, (blk_cell BK455.out 2).trans rfl, (blk_cell BK455.out 3).trans rfl, (blk_cell BK455.out 4).trans rfl, (blk_cell BK455.out 5).trans rfl, (blk_cell BK456.out 0).trans rfl, (blk_cell BK456.out 1).trans rfl, (blk_cell BK456.out 2).trans rfl, (blk_cell BK456.out 3).trans rfl⟩ (fun hHeld => ?_)
            clear hK K
            refine norm_ (a' := ?_) ?_ ?_
            rotate_left
            ·show Act.put _ (some 142) _ = _
             simp only [Act.put, qA, qB, qC, i64_w, i32_w]
             rfl
            refine one_ (i := 7) (N := some 146) #[bT,bT,bT,bT,bT,bT,bT,bT,bF,bF,bF,bF,bF] rfl rfl (one_of HT_.out (by kernel_rfl)) (by decide) (fun K hK => ?_)
            refine goes_ Try.func19 (by kernel_rfl) rfl #[.agg #[.slice Ao95 x456000_5.length co95, .slice Ao96 x456001_5.length co96, .slice Ao97 x456002_5.length co97, .slice Ao98 x456003_5.length co98, .slice Ao99 x456004_5.length co99, .slice Ao100 x456005_5.length co100], .string x457001_5, .string (⟨#[103]⟩ : ByteArray)] (by rfl) rfl rfl (by (try simp only [List.map_toArray, List.map_cons, List.map_nil]); first | done | rfl | (simp only [List.length_drop, List.length_take]; rfl)) ?_
            with_reducible refine (entailref22_Inside.calls k5 _ _ x456000_5 _ _ x456001_5 _ _ x456002_5 _ _ x456003_5 _ _ x456004_5 _ _ x456005_5 x457001_5 (⟨#[103]⟩ : ByteArray) t499 _ ?side1 ?side2 ?side3 ?side4 ?side5 ?side6 ?side7 ?side8 ?side9 ?side10 ?side11 ?side12 A91.out).mono ?_
            (case side1 => exact lC (Kd.V_reads' HO_456000.out).2.2)
            (case side2 => exact (Kd.V_reads' HO_456000.out).2.1)
            (case side3 => exact lC (Kd.V_reads' HO_456001.out).2.2)
            (case side4 => exact (Kd.V_reads' HO_456001.out).2.1)
            (case side5 => exact lC (Kd.V_reads' HO_456002.out).2.2)
            (case side6 => exact (Kd.V_reads' HO_456002.out).2.1)
            (case side7 => exact lC (Kd.V_reads' HO_456003.out).2.2)
            (case side8 => exact (Kd.V_reads' HO_456003.out).2.1)
            (case side9 => exact lC (Kd.V_reads' HO_456004.out).2.2)
            (case side10 => exact (Kd.V_reads' HO_456004.out).2.1)
            (case side11 => exact lC (Kd.V_reads' HO_456005.out).2.2)
            (case side12 => exact (Kd.V_reads' HO_456005.out).2.1)
            rintro e w102 ⟨rfl, hb⟩
            refine ⟨_, rfl, ?_⟩
            replace HO_456000 := Aside0.mk (Kd.V_below (lV HO_456000.out) hb)
            replace HO_456001 := Aside0.mk (Kd.V_below (lV HO_456001.out) hb)
            replace HO_456002 := Aside0.mk (Kd.V_below (lV HO_456002.out) hb)
            replace HO_456003 := Aside0.mk (Kd.V_below (lV HO_456003.out) hb)
            replace HO_456004 := Aside0.mk (Kd.V_below (lV HO_456004.out) hb)
            replace HO_456005 := Aside0.mk (Kd.V_below (lV HO_456005.out) hb)
            replace BK455 := Aside0.mk (blk_below (g := gb455) (o := .cells #[.slice Ao95 x456000_5.length co95, .slice Ao96 x456001_5.length co96, .slice Ao97 x456002_5.length co97, .slice Ao98 x456003_5.length co98, .slice Ao99 x456004_5.length co99, .slice Ao100 x456005_5.length co100] 28 (0, 0)) (lk BK455.out) hb)
            replace BK456 := Aside0.mk (blk_below (g := gb456) (o := .cells #[.bool x457000_5, .string x457001_5, .string x457002_5, .string x457003_5] 31 (0, 0)) (lk BK456.out) hb)
            replace HB := Aside0.mk (below_step (lb2 HB.out GE455.out GE456.out) hb)
            (try clear hb)
            (try clear hb2)
            (try clear hk)
            (try clear hi)
            refine hK.out _ _ ⟨(blk_cell BK455.out 0).trans rfl, (blk_cell BK455.out 1).trans rfl, (blk_cell BK455.out 2).trans rfl, (blk_cell BK455.out 3).trans rfl, (blk_cell BK455.out 4).trans rfl, (blk_cell BK455.out 5).trans rfl, (blk_cell BK456.out 0).trans rfl, (blk_cell BK456.out 1).trans rfl, (blk_cell BK456.out 2).trans rfl, (blk_cell BK456.out 3).trans rfl⟩ (fun hHeld => ?_)
            clear hK K
            refine norm_ (a' := ?_) ?_ ?_
            rotate_left
            ·show Act.put _ (some 146) _ = _
             simp only [Act.put, qA, qB, qC, i64_w, i32_w]
             rfl
            refine pure_ (i := 8) (N := some 147) (v := ?_) (a' := ?_) #[bT,bT,bT,bT,bT,bT,bT,bT,bT,bF,bF,bF,bF] rfl rfl (any_of HT_.out (by kernel_rfl)) (fun _ _ _ h => h) (Or.inl ⟨by rfl, ?_⟩) ?_ ?_
            rotate_left
            ·intro w'
             go_simp
             with_reducible rfl
            rotate_left
            ·simp only [Act.put, qA, qB, qC, i64_w, i32_w]
             rfl
            refine pure_ (i := 9) (N := some 148) (v := ?_) (a' := ?_) #[bT,bT,bT,bT,bT,bT,bT,bT,bT,bT,bF,bF,bF] rfl rfl (any_of HT_.out (by kernel_rfl)) (fun _ _ _ h => h) (Or.inl ⟨by rfl, ?_⟩) ?_ ?_
            rotate_left
            ·intro w'
             go_simp
             with_reducible rfl
            rotate_left
            ·simp only [Act.put, qA, qB, qC, i64_w, i32_w]
             rfl
            refine one_ (i := 10) (N := some 149) #[bT,bT,bT,bT,bT,bT,bT,bT,bT,bT,bT,bF,bF] rfl rfl (one_of HT_.out (by kernel_rfl)) (by decide) (fun K hK => ?_)
            refine goes_ Try.func11 (by kernel_rfl) rfl #[] (by rfl) rfl rfl (by (try simp only [List.map_toArray, List.map_cons, List.map_nil]); first | done | rfl | (simp only [List.length_drop, List.length_take]; rfl)) ?_
            with_reducible refine (entaillaw24_awake.calls k5  t500 _ A93.out).mono ?_
            rintro e w103 ⟨rfl, hb⟩
            refine ⟨_, rfl, ?_⟩
            replace HO_456000 := Aside0.mk (Kd.V_below (lV HO_456000.out) hb)
            replace HO_456001 := Aside0.mk (Kd.V_below (lV HO_456001.out) hb)
            replace HO_456002 := Aside0.mk (Kd.V_below (lV HO_456002.out) hb)
            replace HO_456003 := Aside0.mk (Kd.V_below (lV HO_456003.out) hb)
            replace HO_456004 := Aside0.mk (Kd.V_below (lV HO_456004.out) hb)
            replace HO_456005 := Aside0.mk (Kd.V_below (lV HO_456005.out) hb)
            replace BK455 := Aside0.mk (blk_below (g := gb455) (o := .cells #[.slice Ao95 x456000_5.length co95, .slice Ao96 x456001_5.length co96, .slice Ao97 x456002_5.length co97, .slice Ao98 x456003_5.length co98, .slice Ao99 x456004_5.length co99, .slice Ao100 x456005_5.length co100] 28 (0, 0)) (lk BK455.out) hb)
            replace BK456 := Aside0.mk (blk_below (g := gb456) (o := .cells #[.bool x457000_5, .string x457001_5, .string x457002_5, .string x457003_5] 31 (0, 0)) (lk BK456.out) hb)
            replace HB := Aside0.mk (below_step (lb2 HB.out GE455.out GE456.out) hb)
            (try clear hb)
            (try clear hb2)
            (try clear hk)
            (try clear hi)
            refine hK.out _ _ ⟨(blk_cell BK455.out 0).trans rfl, (blk_cell BK455.out 1).trans rfl, (blk_cell BK455.out 2).trans rfl, (blk_cell BK455.out 3).trans rfl, (blk_cell BK455.out 4).trans rfl, (blk_cell BK455.out 5).trans rfl, (blk_cell BK456.out 0).trans rfl, (blk_cell BK456.out 1).trans rfl, (blk_cell BK456.out 2).trans rfl, (blk_cell BK456.out 3).trans rfl⟩ (fun hHeld => ?_)
            clear hK K
            refine norm_ (a' := ?_) ?_ ?_
            rotate_left
            ·show Act.put _ (some 149) _ = _
             simp only [Act.put, qA, qB, qC, i64_w, i32_w]
             rfl
            refine pure_ (i := 11) (N := some 150) (v := ?_) (a' := ?_) #[bT,bT,bT,bT,bT,bT,bT,bT,bT,bT,bT,bT,bF] rfl rfl (any_of HT_.out (by kernel_rfl)) (fun _ _ _ h => h) (Or.inl ⟨by rfl, ?_⟩) ?_ ?_
            rotate_left
            ·intro w'
             go_simp
             with_reducible rfl
            rotate_left
            ·simp only [Act.put, qA, qB, qC, i64_w, i32_w]
             rfl
            refine pure_ (i := 12) (N := some 16) (v := ?_) (a' := ?_) #[bT,bT,bT,bT,bT,bT,bT,bT,bT,bT,bT,bT,bT] rfl rfl (any_of HT_.out (by kernel_rfl)) (fun _ _ _ h => h) (Or.inl ⟨by rfl, ?_⟩) ?_ ?_
            rotate_left
            ·intro w'
             go_simp
             with_reducible rfl
            rotate_left
            ·simp only [Act.put, qA, qB, qC, i64_w, i32_w]
             rfl
            refine done_ (done_of HT_.out (by kernel_rfl)) ?_
            try go_wp2
            go_ret
            exact ⟨by first | rfl | (simp [errW_none, errW_some] <;> rfl) | (simp [*, errW_none, errW_some] <;> rfl), lb2 HB.out GE455.out GE456.out⟩
           rw [if_pos c49] at H
           have c49b0 : decide (x19_5 < 2) = true := decide_eq_true c49
           clear c49
           have HC50 := Aside0.mk H
           clear H
           go_upto_region 18 with (fail)
           go_cut [134] (fun v134 wc => ∃ (kq : Nat) (x134_49 : Bool), v134 = .bool x134_49 ∧ Aside0 (entaillaw24_GlobTells.j5 kq l5 a7 x19_5 x134_49 = some r) ∧ Aside0 (kq ≤ k5) ∧ Aside0 (Kd.V Kd.string 9 wc w.heap.size (fun k_ => ((P4_0_ k_ ∨ P4_1_ k_ ∨ P4_2_ k_ ∨ P4_3_ k_ ∨ P4_4_ k_ ∨ P4_5_ k_) ∨ w.heap.size ≤ k_) ∧ k_ ≠ gb455 ∧ k_ ≠ gb456) u456000 x456000_5) ∧ Aside0 (Kd.V Kd.string 9 wc w.heap.size (fun k_ => ((P4_0_ k_ ∨ P4_1_ k_ ∨ P4_2_ k_ ∨ P4_3_ k_ ∨ P4_4_ k_ ∨ P4_5_ k_) ∨ w.heap.size ≤ k_) ∧ k_ ≠ gb455 ∧ k_ ≠ gb456) u456001 x456001_5) ∧ Aside0 (Kd.V Kd.string 9 wc w.heap.size (fun k_ => ((P4_0_ k_ ∨ P4_1_ k_ ∨ P4_2_ k_ ∨ P4_3_ k_ ∨ P4_4_ k_ ∨ P4_5_ k_) ∨ w.heap.size ≤ k_) ∧ k_ ≠ gb455 ∧ k_ ≠ gb456) u456002 x456002_5) ∧ Aside0 (Kd.V k36 36 wc w.heap.size (fun k_ => ((P4_0_ k_ ∨ P4_1_ k_ ∨ P4_2_ k_ ∨ P4_3_ k_ ∨ P4_4_ k_ ∨ P4_5_ k_) ∨ w.heap.size ≤ k_) ∧ k_ ≠ gb455 ∧ k_ ≠ gb456) u456003 x456003_5) ∧ Aside0 (Kd.V k34 34 wc w.heap.size (fun k_ => ((P4_0_ k_ ∨ P4_1_ k_ ∨ P4_2_ k_ ∨ P4_3_ k_ ∨ P4_4_ k_ ∨ P4_5_ k_) ∨ w.heap.size ≤ k_) ∧ k_ ≠ gb455 ∧ k_ ≠ gb456) u456004 x456004_5) ∧ Aside0 (Kd.V k51 51 wc w.heap.size (fun k_ => ((P4_0_ k_ ∨ P4_1_ k_ ∨ P4_2_ k_ ∨ P4_3_ k_ ∨ P4_4_ k_ ∨ P4_5_ k_) ∨ w.heap.size ≤ k_) ∧ k_ ≠ gb455 ∧ k_ ≠ gb456) u456005 x456005_5) ∧ Aside0 (wc.heap[gb455]? = some (.cells #[u456000, u456001, u456002, u456003, u456004, u456005] 28 (0, 0))) ∧ Aside0 (wc.heap[gb456]? = some (.cells #[.bool x457000_5, .string x457001_5, .string x457002_5, .string x457003_5] 31 (0, 0))) ∧ Aside0 (Below w.heap.size w wc))
           case first =>
            have H := HC50.out
            clear HC50
            replace H := Option.bind_eq_some_iff.mp H
            obtain ⟨t472, A510, H⟩ := H
            have A51 := Aside0.mk A510
            clear A510
            replace H := Option.bind_eq_some_iff.mp H
            obtain ⟨t473, A520, H⟩ := H
            have A52 := Aside0.mk A520
            clear A520
            by_cases c53 : (t472 != t473) = true
            ·rw [if_pos c53] at H
             have c53b0 : (t472 != t473) = true := c53
             (try (have c53b1 : decide (t472 = t473) = false := by simpa using c53))
             (try (have c53b2 : (t472 == t473) = false := by simpa using c53))
             (try (have c53b3 : ¬ (t472 = t473) := by simpa using c53))
             clear c53
             (first | rw [c53b0] | (simp only [i64_w, i32_w]; rw [c53b0]) | skip)
             have H' := Aside0.mk H
             clear H
             try go_wp2
             replace HO_456000 := Aside0.mk (Kd.V_drew HO_456000.out)
             replace HO_456001 := Aside0.mk (Kd.V_drew HO_456001.out)
             replace HO_456002 := Aside0.mk (Kd.V_drew HO_456002.out)
             replace HO_456003 := Aside0.mk (Kd.V_drew HO_456003.out)
             replace HO_456004 := Aside0.mk (Kd.V_drew HO_456004.out)
             replace HO_456005 := Aside0.mk (Kd.V_drew HO_456005.out)
             replace BK455 := Aside0.mk (blk_drew BK455.out)
             replace BK456 := Aside0.mk (blk_drew BK456.out)
             replace HB := Aside0.mk (below_drew1 HB.out)
             obtain ⟨Ao55, co55, eo55⟩ := Kd.V_slice HO_456000.out
             (first | subst eo55 | (injection eo55 with f1_ f2_ f3_; have f4_ := f1_.symm; have f5_ := f3_.symm; clear f1_ f2_ f3_; subst f4_; subst f5_))
             obtain ⟨Ao56, co56, eo56⟩ := Kd.V_slice HO_456001.out
             (first | subst eo56 | (injection eo56 with f1_ f2_ f3_; have f4_ := f1_.symm; have f5_ := f3_.symm; clear f1_ f2_ f3_; subst f4_; subst f5_))
             obtain ⟨Ao57, co57, eo57⟩ := Kd.V_slice HO_456002.out
             (first | subst eo57 | (injection eo57 with f1_ f2_ f3_; have f4_ := f1_.symm; have f5_ := f3_.symm; clear f1_ f2_ f3_; subst f4_; subst f5_))
             obtain ⟨Ao58, co58, eo58⟩ := Kd.V_slice HO_456003.out
             (first | subst eo58 | (injection eo58 with f1_ f2_ f3_; have f4_ := f1_.symm; have f5_ := f3_.symm; clear f1_ f2_ f3_; subst f4_; subst f5_))
             obtain ⟨Ao59, co59, eo59⟩ := Kd.V_slice HO_456004.out
             (first | subst eo59 | (injection eo59 with f1_ f2_ f3_; have f4_ := f1_.symm; have f5_ := f3_.symm; clear f1_ f2_ f3_; subst f4_; subst f5_))
             obtain ⟨Ao60, co60, eo60⟩ := Kd.V_slice HO_456005.out
             (first | subst eo60 | (injection eo60 with f1_ f2_ f3_; have f4_ := f1_.symm; have f5_ := f3_.symm; clear f1_ f2_ f3_; subst f4_; subst f5_))
             refine start_ (n := 32) (S := fun w' => w'.cell? ⟨gb455, 0, none⟩ = some (.slice Ao55 x456000_5.length co55) ∧ w'.cell? ⟨gb455, 1, none⟩ = some (.slice Ao56 x456001_5.length co56) ∧ w'.cell? ⟨gb455, 2, none⟩ = some (.slice Ao57 x456002_5.length co57) ∧ w'.cell? ⟨gb455, 3, none⟩ = some (.slice Ao58 x456003_5.length co58) ∧ w'.cell? ⟨gb455, 4, none⟩ = some (.slice Ao59 x456004_5.length co59) ∧ w'.cell? ⟨gb455, 5, none⟩ = some (.slice Ao60 x456005_5.length co60) ∧ w'.cell? ⟨gb456, 0, none⟩ = some (.bool x457000_5) ∧ w'.cell? ⟨gb456, 1, none⟩ = some (.string x457001_5) ∧ w'.cell? ⟨gb456, 2, none⟩ = some (.string x457002_5) ∧ w'.cell? ⟨gb456, 3, none⟩ = some (.string x457003_5)) (ds := []) #[bF,bF,bF,bF,bF,bF,bF,bF,bF,bF,bF,bF,bF,bF,bF,bF,bF,bF,bF,bF,bF,bF,bF,bF,bF,bF,bF,bF,bF,bF,bF,bF] (by kernel_rfl) rfl rfl ⟨(blk_cell BK455.out 0).trans rfl, (blk_cell BK455.out 1).trans rfl, (blk_cell BK455.out 2).trans rfl, (blk_cell BK455.out 3).trans rfl, (blk_cell BK455.out 4).trans rfl, (blk_cell BK455.out 5).trans rfl, (blk_cell BK456.out 0).trans rfl, (blk_cell BK456.out 1).trans rfl, (blk_cell BK456.out 2).trans rfl, (blk_cell BK456.out 3).trans rfl⟩ (fun hHeld => ?_); refine with_tabW entaillaw24_GlobTells.tab18 entaillaw24_GlobTells.bits18 (fun HT_ HW_ => ?_)
             generalize wr.drew = w54 at HO_456000 HO_456001 HO_456002 HO_456003 HO_456004 HO_456005 BK455 BK456 HB hHeld ⊢
             refine pure_ (i := 1) (N := some 104) (v := ?_) (a' := ?_) #[bF,bT,bF,bF,bF,bF,bF,bF,bF,bF,bF,bF,bF,bF,bF,bF,bF,bF,bF,bF,bF,bF,bF,bF,bF,bF,bF,bF,bF,bF,bF,bF] rfl rfl (any_of HT_.out (by kernel_rfl)) (fun _ _ _ h => h) (Or.inl ⟨by rfl, ?_⟩) ?_ ?_
             rotate_left
             ·intro w'
              go_simp
              with_reducible rfl
             rotate_left
             ·simp only [Act.put, qA, qB, qC, i64_w, i32_w]
              rfl
             refine pure_ (i := 3) (N := some 106) (v := ?_) (a' := ?_) #[bF,bT,bF,bT,bF,bF,bF,bF,bF,bF,bF,bF,bF,bF,bF,bF,bF,bF,bF,bF,bF,bF,bF,bF,bF,bF,bF,bF,bF,bF,bF,bF] rfl rfl (any_of HT_.out (by kernel_rfl)) (fun _ _ _ h => h) (Or.inl ⟨by rfl, ?_⟩) ?_ ?_
             rotate_left
             ·intro w'
              go_simp
              with_reducible rfl
             rotate_left
             ·simp only [Act.put, qA, qB, qC, i64_w, i32_w]
              rfl
             refine pure_ (i := 5) (N := some 108) (v := ?_) (a' := ?_) #[bF,bT,bF,bT,bF,bT,bF,bF,bF,bF,bF,bF,bF,bF,bF,bF,bF,bF,bF,bF,bF,bF,bF,bF,bF,bF,bF,bF,bF,bF,bF,bF] rfl rfl (any_of HT_.out (by kernel_rfl)) (fun _ _ _ h => h) (Or.inl ⟨by rfl, ?_⟩) ?_ ?_
             rotate_left
             ·intro w'
              go_simp
              with_reducible rfl
             rotate_left
             ·simp only [Act.put, qA, qB, qC, i64_w, i32_w]
              rfl
             refine pure_ (i := 9) (N := some 112) (v := ?_) (a' := ?_) #[bF,bT,bF,bT,bF,bT,bF,bF,bF,bT,bF,bF,bF,bF,bF,bF,bF,bF,bF,bF,bF,bF,bF,bF,bF,bF,bF,bF,bF,bF,bF,bF] rfl rfl (any_of HT_.out (by kernel_rfl)) (fun _ _ _ h => h) (Or.inl ⟨by rfl, ?_⟩) ?_ ?_
             rotate_left
             ·intro w'
              go_simp
              with_reducible rfl
             rotate_left
             ·simp only [Act.put, qA, qB, qC, i64_w, i32_w]
              rfl
             refine pure_ (i := 11) (N := some 114) (v := ?_) (a' := ?_) #[bF,bT,bF,bT,bF,bT,bF,bF,bF,bT,bF,bT,bF,bF,bF,bF,bF,bF,bF,bF,bF,bF,bF,bF,bF,bF,bF,bF,bF,bF,bF,bF] rfl rfl (any_of HT_.out (by kernel_rfl)) (fun _ _ _ h => h) (Or.inl ⟨by rfl, ?_⟩) ?_ ?_
             rotate_left
             ·intro w'
              go_simp
              with_reducible rfl
             rotate_left
             ·simp only [Act.put, qA, qB, qC, i64_w, i32_w]
              rfl
             refine pure_ (i := 13) (N := some 116) (v := ?_) (a' := ?_) #[bF,bT,bF,bT,bF,bT,bF,bF,bF,bT,bF,bT,bF,bT,bF,bF,bF,bF,bF,bF,bF,bF,bF,bF,bF,bF,bF,bF,bF,bF,bF,bF] rfl rfl (any_of HT_.out (by kernel_rfl)) (fun _ _ _ h => h) (Or.inl ⟨by rfl, ?_⟩) ?_ ?_
             rotate_left
             ·intro w'
              go_simp
              with_reducible rfl
             rotate_left
             ·simp only [Act.put, qA, qB, qC, i64_w, i32_w]
              rfl
             refine take_ (i := 0) (N := some 103) (v := ?_) (a' := ?_) #[bT,bT,bF,bT,bF,bT,bF,bF,bF,bT,bF,bT,bF,bT,bF,bF,bF,bF,bF,bF,bF,bF,bF,bF,bF,bF,bF,bF,bF,bF,bF,bF] rfl rfl (take_ofW HT_.out HW_.out (by kernel_rfl)) (fun _ _ _ h => h) (Or.inl ⟨by rfl, ?_⟩) hHeld ?_ ?_
             rotate_left
             ·rintro w' ⟨s0, s1, s2, s3, s4, s5, s6, s7, s8, s9⟩
              go_simp
              with_reducible rfl
             rotate_left
             ·simp only [Act.put, qA, qB, qC, i64_w, i32_w]
              rfl
             refine take_ (i := 2) (N := some 105) (v := ?_) (a' := ?_) #[bT,bT,bT,bT,bF,bT,bF,bF,bF,bT,bF,bT,bF,bT,bF,bF,bF,bF,bF,bF,bF,bF,bF,bF,bF,bF,bF,bF,bF,bF,bF,bF] rfl rfl (take_ofW HT_.out HW_.out (by kernel_rfl)) (fun _ _ _ h => h) (Or.inl ⟨by rfl, ?_⟩) hHeld ?_ ?_
             rotate_left
             ·rintro w' ⟨s0, s1, s2, s3, s4, s5, s6, s7, s8, s9⟩
              go_simp
              with_reducible rfl
             rotate_left
             ·simp only [Act.put, qA, qB, qC, i64_w, i32_w]
              rfl
             refine take_ (i := 4) (N := some 107) (v := ?_) (a' := ?_) #[bT,bT,bT,bT,bT,bT,bF,bF,bF,bT,bF,bT,bF,bT,bF,bF,bF,bF,bF,bF,bF,bF,bF,bF,bF,bF,bF,bF,bF,bF,bF,bF] rfl rfl (take_ofW HT_.out HW_.out (by kernel_rfl)) (fun _ _ _ h => h) (Or.inl ⟨by rfl, ?_⟩) hHeld ?_ ?_
             rotate_left
             ·rintro w' ⟨s0, s1, s2, s3, s4, s5, s6, s7, s8, s9⟩
              go_simp
              with_reducible rfl
             rotate_left
             ·simp only [Act.put, qA, qB, qC, i64_w, i32_w]
              rfl
             refine take_ (i := 6) (N := some 109) (v := ?_) (a' := ?_) #[bT,bT,bT,bT,bT,bT,bT,bF,bF,bT,bF,bT,bF,bT,bF,bF,bF,bF,bF,bF,bF,bF,bF,bF,bF,bF,bF,bF,bF,bF,bF,bF] rfl rfl (take_ofW HT_.out HW_.out (by kernel_rfl)) (fun _ _ _ h => h) (Or.inl ⟨by rfl, ?_⟩) hHeld ?_ ?_
             rotate_left
             ·rintro w' ⟨s0, s1, s2, s3, s4, s5, s6, s7, s8, s9⟩
              go_simp
              with_reducible rfl
             rotate_left
             ·simp only [Act.put, qA, qB, qC, i64_w, i32_w]
              rfl
             refine take_ (i := 8) (N := some 111) (v := ?_) (a' := ?_) #[bT,bT,bT,bT,bT,bT,bT,bF,bT,bT,bF,bT,bF,bT,bF,bF,bF,bF,bF,bF,bF,bF,bF,bF,bF,bF,bF,bF,bF,bF,bF,bF] rfl rfl (take_ofW HT_.out HW_.out (by kernel_rfl)) (fun _ _ _ h => h) (Or.inl ⟨by rfl, ?_⟩) hHeld ?_ ?_
             rotate_left
             ·rintro w' ⟨s0, s1, s2, s3, s4, s5, s6, s7, s8, s9⟩
              go_simp
              with_reducible rfl
             rotate_left
             ·simp only [Act.put, qA, qB, qC, i64_w, i32_w]
              rfl
             refine take_ (i := 10) (N := some 113) (v := ?_) (a' := ?_) #[bT,bT,bT,bT,bT,bT,bT,bF,bT,bT,bT,bT,bF,bT,bF,bF,bF,bF,bF,bF,bF,bF,bF,bF,bF,bF,bF,bF,bF,bF,bF,bF] rfl rfl (take_ofW HT_.out HW_.out (by kernel_rfl)) (fun _ _ _ h => h) (Or.inl ⟨by rfl, ?_⟩) hHeld ?_ ?_
             rotate_left
             ·rintro w' ⟨s0, s1, s2, s3, s4, s5, s6, s7, s8, s9⟩
              go_simp
              with_reducible rfl
             rotate_left
             ·simp only [Act.put, qA, qB, qC, i64_w, i32_w]
              rfl
             refine take_ (i := 12) (N := some 115) (v := ?_) (a' := ?_) #[bT,bT,bT,bT,bT,bT,bT,bF,bT,bT,bT,bT,bT,bT,bF,bF,bF,bF,bF,bF,bF,bF,bF,bF,bF,bF,bF,bF,bF,bF,bF,bF] rfl rfl (take_ofW HT_.out HW_.out (by kernel_rfl)) (fun _ _ _ h => h) (Or.inl ⟨by rfl, ?_⟩) hHeld ?_ ?_
             rotate_left
             ·rintro w' ⟨s0, s1, s2, s3, s4, s5, s6, s7, s8, s9⟩
              go_simp
              with_reducible rfl
             rotate_left
             ·simp only [Act.put, qA, qB, qC, i64_w, i32_w]
              rfl
             refine take_ (i := 14) (N := some 117) (v := ?_) (a' := ?_) #[bT,bT,bT,bT,bT,bT,bT,bF,bT,bT,bT,bT,bT,bT,bT,bF,bF,bF,bF,bF,bF,bF,bF,bF,bF,bF,bF,bF,bF,bF,bF,bF] rfl rfl (take_ofW HT_.out HW_.out (by kernel_rfl)) (fun _ _ _ h => h) (Or.inl ⟨by rfl, ?_⟩) hHeld ?_ ?_
             rotate_left
             ·rintro w' ⟨s0, s1, s2, s3, s4, s5, s6, s7, s8, s9⟩
              go_simp
              with_reducible rfl
             rotate_left
             ·simp only [Act.put, qA, qB, qC, i64_w, i32_w]
              rfl
             refine one_ (i := 7) (N := some 110) #[bT,bT,bT,bT,bT,bT,bT,bT,bT,bT,bT,bT,bT,bT,bT,bF,bF,bF,bF,bF,bF,bF,bF,bF,bF,bF,bF,bF,bF,bF,bF,bF] rfl rfl (one_of HT_.out (by kernel_rfl)) (by decide) (fun K hK => ?_)
             refine goes_ Try.func9 (by kernel_rfl) rfl #[.agg #[.slice Ao55 x456000_5.length co55, .slice Ao56 x456001_5.length co56, .slice Ao57 x456002_5.length co57, .slice Ao58 x456003_5.length co58, .slice Ao59 x456004_5.length co59, .slice Ao60 x456005_5.length co60], .string x457001_5, .string x457002_5, .string x457003_5] (by rfl) rfl rfl (by (try simp only [List.map_toArray, List.map_cons, List.map_nil]); first | done | rfl | (simp only [List.length_drop, List.length_take]; rfl)) ?_
             with_reducible refine (glob_May.calls k5 _ _ x456000_5 _ _ x456001_5 _ _ x456002_5 _ _ x456003_5 _ _ x456004_5 _ _ x456005_5 x457001_5 x457002_5 x457003_5 t472 _ ?side1 ?side2 ?side3 ?side4 ?side5 ?side6 ?side7 ?side8 ?side9 ?side10 ?side11 ?side12 A51.out).mono ?_
             (case side1 => exact lC (Kd.V_reads' HO_456000.out).2.2)
             (case side2 => exact (Kd.V_reads' HO_456000.out).2.1)
             (case side3 => exact lC (Kd.V_reads' HO_456001.out).2.2)
             (case side4 => exact (Kd.V_reads' HO_456001.out).2.1)
             (case side5 => exact lC (Kd.V_reads' HO_456002.out).2.2)
             (case side6 => exact (Kd.V_reads' HO_456002.out).2.1)
             (case side7 => exact lC (Kd.V_reads' HO_456003.out).2.2)
             (case side8 => exact (Kd.V_reads' HO_456003.out).2.1)
             (case side9 => exact lC (Kd.V_reads' HO_456004.out).2.2)
             (case side10 => exact (Kd.V_reads' HO_456004.out).2.1)
             (case side11 => exact lC (Kd.V_reads' HO_456005.out).2.2)
             (case side12 => exact (Kd.V_reads' HO_456005.out).2.1)
             rintro e w61 ⟨rfl, hb⟩
             refine ⟨_, rfl, ?_⟩
             replace HO_456000 := Aside0.mk (Kd.V_below (lV HO_456000.out) hb)
             replace HO_456001 := Aside0.mk (Kd.V_below (lV HO_456001.out) hb)
             replace HO_456002 := Aside0.mk (Kd.V_below (lV HO_456002.out) hb)
             replace HO_456003 := Aside0.mk (Kd.V_below (lV HO_456003.out) hb)
             replace HO_456004 := Aside0.mk (Kd.V_below (lV HO_456004.out) hb)
             replace HO_456005 := Aside0.mk (Kd.V_below (lV HO_456005.out) hb)
             replace BK455 := Aside0.mk (blk_below (g := gb455) (o := .cells #[.slice Ao55 x456000_5.length co55, .slice Ao56 x456001_5.length co56, .slice Ao57 x456002_5.length co57, .slice Ao58 x456003_5.length co58, .slice Ao59 x456004_5.length co59, .slice Ao60 x456005_5.length co60] 28 (0, 0)) (lk BK455.out) hb)
             replace BK456 := Aside0.mk (blk_below (g := gb456) (o := .cells #[.bool x457000_5, .string x457001_5, .string x457002_5, .string x457003_5] 31 (0, 0)) (lk BK456.out) hb)
             replace HB := Aside0.mk (below_step (lb2 HB.out GE455.out GE456.out) hb)
             (try clear hb)
             (try clear hb2)
             (try clear hk)
             (try clear hi)
             refine hK.out _ _ ⟨(blk_cell BK455.out 0).trans rfl, (blk_cell BK455.out 1).trans rfl, (blk_cell BK455.out 2).trans rfl, (blk_cell BK455.out 3).trans rfl, (blk_cell BK455.out 4).trans rfl, (blk_cell BK455.out 5).trans rfl, (blk_cell BK456.out 0).trans rfl, (blk_cell BK456.out 1).trans rfl, (blk_cell BK456.out 2).trans rfl, (blk_cell BK456.out 3).trans rfl⟩ (fun hHeld => ?_)
             clear hK K
             refine norm_ (a' := ?_) ?_ ?_
             rotate_left
             ·show Act.put _ (some 110) _ = _
              simp only [Act.put, qA, qB, qC, i64_w, i32_w]
              rfl
             refine one_ (i := 15) (N := some 118) #[bT,bT,bT,bT,bT,bT,bT,bT,bT,bT,bT,bT,bT,bT,bT,bT,bF,bF,bF,bF,bF,bF,bF,bF,bF,bF,bF,bF,bF,bF,bF,bF] rfl rfl (one_of HT_.out (by kernel_rfl)) (by decide) (fun K hK => ?_)
             refine goes_ Try.func18 (by kernel_rfl) rfl #[.agg #[.slice Ao55 x456000_5.length co55, .slice Ao56 x456001_5.length co56, .slice Ao57 x456002_5.length co57, .slice Ao58 x456003_5.length co58, .slice Ao59 x456004_5.length co59, .slice Ao60 x456005_5.length co60], .string x457001_5, .string x457002_5, .string x457003_5] (by rfl) rfl rfl (by (try simp only [List.map_toArray, List.map_cons, List.map_nil]); first | done | rfl | (simp only [List.length_drop, List.length_take]; rfl)) ?_
             with_reducible refine (entailref22_May.calls k5 _ _ x456000_5 _ _ x456001_5 _ _ x456002_5 _ _ x456003_5 _ _ x456004_5 _ _ x456005_5 x457001_5 x457002_5 x457003_5 t473 _ ?side1 ?side2 ?side3 ?side4 ?side5 ?side6 ?side7 ?side8 ?side9 ?side10 ?side11 ?side12 A52.out).mono ?_
             (case side1 => exact lC (Kd.V_reads' HO_456000.out).2.2)
             (case side2 => exact (Kd.V_reads' HO_456000.out).2.1)
             (case side3 => exact lC (Kd.V_reads' HO_456001.out).2.2)
             (case side4 => exact (Kd.V_reads' HO_456001.out).2.1)
             (case side5 => exact lC (Kd.V_reads' HO_456002.out).2.2)
             (case side6 => exact (Kd.V_reads' HO_456002.out).2.1)
             (case side7 => exact lC (Kd.V_reads' HO_456003.out).2.2)
             (case side8 => exact (Kd.V_reads' HO_456003.out).2.1)
             (case side9 => exact lC (Kd.V_reads' HO_456004.out).2.2)
             (case side10 => exact (Kd.V_reads' HO_456004.out).2.1)
             (case side11 => exact lC (Kd.V_reads' HO_456005.out).2.2)
             (case side12 => exact (Kd.V_reads' HO_456005.out).2.1)
             rintro e w62 ⟨rfl, hb⟩
             refine ⟨_, rfl, ?_⟩
             replace HO_456000 := Aside0.mk (Kd.V_below (lV HO_456000.out) hb)
             replace HO_456001 := Aside0.mk (Kd.V_below (lV HO_456001.out) hb)
             replace HO_456002 := Aside0.mk (Kd.V_below (lV HO_456002.out) hb)
             replace HO_456003 := Aside0.mk (Kd.V_below (lV HO_456003.out) hb)
             replace HO_456004 := Aside0.mk (Kd.V_below (lV HO_456004.out) hb)
             replace HO_456005 := Aside0.mk (Kd.V_below (lV HO_456005.out) hb)
             replace BK455 := Aside0.mk (blk_below (g := gb455) (o := .cells #[.slice Ao55 x456000_5.length co55, .slice Ao56 x456001_5.length co56, .slice Ao57 x456002_5.length co57, .slice Ao58 x456003_5.length co58, .slice Ao59 x456004_5.length co59, .slice Ao60 x456005_5.length co60] 28 (0, 0)) (lk BK455.out) hb)
             replace BK456 := Aside0.mk (blk_below (g := gb456) (o := .cells #[.bool x457000_5, .string x457001_5, .string x457002_5, .string x457003_5] 31 (0, 0)) (lk BK456.out) hb)
             replace HB := Aside0.mk (below_step (lb2 HB.out GE455.out GE456.out) hb)
             (try clear hb)
             (try clear hb2)
             (try clear hk)
             (try clear hi)
             refine hK.out _ _ ⟨(blk_cell BK455.out 0).trans rfl, (blk_cell BK455.out 1).trans rfl, (blk_cell BK455.out 2).trans rfl, (blk_cell BK455.out 3).trans rfl, (blk_cell BK455.out 4).trans rfl, (blk_cell BK455.out 5).trans rfl, (blk_cell BK456.out 0).trans rfl, (blk_cell BK456.out 1).trans rfl, (blk_cell BK456.out 2).trans rfl, (blk_cell BK456.out 3).trans rfl⟩ (fun hHeld => ?_)
             clear hK K
             refine norm_ (a' := ?_) ?_ ?_
             rotate_left
             ·show Act.put _ (some 118) _ = _
              simp only [Act.put, qA, qB, qC, i64_w, i32_w]
              rfl
             refine pure_ (i := 16) (N := some 119) (v := ?_) (a' := ?_) #[bT,bT,bT,bT,bT,bT,bT,bT,bT,bT,bT,bT,bT,bT,bT,bT,bT,bF,bF,bF,bF,bF,bF,bF,bF,bF,bF,bF,bF,bF,bF,bF] rfl rfl (any_of HT_.out (by kernel_rfl)) (fun _ _ _ h => h) (Or.inl ⟨by rfl, ?_⟩) ?_ ?_
             rotate_left
             ·intro w'
              go_simp
              with_reducible rfl
             rotate_left
             ·simp only [Act.put, qA, qB, qC, i64_w, i32_w]
              rfl
             refine pure_ (i := 17) (N := some 120) (v := ?_) (a' := ?_) #[bT,bT,bT,bT,bT,bT,bT,bT,bT,bT,bT,bT,bT,bT,bT,bT,bT,bT,bF,bF,bF,bF,bF,bF,bF,bF,bF,bF,bF,bF,bF,bF] rfl rfl (any_of HT_.out (by kernel_rfl)) (fun _ _ _ h => h) (Or.inl ⟨by rfl, ?_⟩) ?_ ?_
             rotate_left
             ·intro w'
              go_simp
              with_reducible rfl
             rotate_left
             ·simp only [Act.put, qA, qB, qC, i64_w, i32_w]
              rfl
             refine pure_ (i := 18) (N := some 121) (v := undef) (a' := ?_) #[bT,bT,bT,bT,bT,bT,bT,bT,bT,bT,bT,bT,bT,bT,bT,bT,bT,bT,bT,bF,bF,bF,bF,bF,bF,bF,bF,bF,bF,bF,bF,bF] rfl rfl (any_of HT_.out (by kernel_rfl)) (fun _ _ _ h => h) (Or.inr ⟨by rfl, rfl⟩) ?_ ?_
             rotate_left
             ·simp only [Act.put, qA, qB, qC, i64_w, i32_w]
              rfl
             refine pure_ (i := 19) (N := some 122) (v := undef) (a' := ?_) #[bT,bT,bT,bT,bT,bT,bT,bT,bT,bT,bT,bT,bT,bT,bT,bT,bT,bT,bT,bT,bF,bF,bF,bF,bF,bF,bF,bF,bF,bF,bF,bF] rfl rfl (any_of HT_.out (by kernel_rfl)) (fun _ _ _ h => h) (Or.inr ⟨by rfl, rfl⟩) ?_ ?_
             rotate_left
             ·simp only [Act.put, qA, qB, qC, i64_w, i32_w]
              rfl
             refine pure_ (i := 20) (N := some 123) (v := undef) (a' := ?_) #[bT,bT,bT,bT,bT,bT,bT,bT,bT,bT,bT,bT,bT,bT,bT,bT,bT,bT,bT,bT,bT,bF,bF,bF,bF,bF,bF,bF,bF,bF,bF,bF] rfl rfl (any_of HT_.out (by kernel_rfl)) (fun _ _ _ h => h) (Or.inr ⟨by rfl, rfl⟩) ?_ ?_
             rotate_left
             ·simp only [Act.put, qA, qB, qC, i64_w, i32_w]
              rfl
             refine pure_ (i := 21) (N := some 124) (v := undef) (a' := ?_) #[bT,bT,bT,bT,bT,bT,bT,bT,bT,bT,bT,bT,bT,bT,bT,bT,bT,bT,bT,bT,bT,bT,bF,bF,bF,bF,bF,bF,bF,bF,bF,bF] rfl rfl (any_of HT_.out (by kernel_rfl)) (fun _ _ _ h => h) (Or.inr ⟨by rfl, rfl⟩) ?_ ?_
             rotate_left
             ·simp only [Act.put, qA, qB, qC, i64_w, i32_w]
              rfl
             refine pure_ (i := 22) (N := some 125) (v := undef) (a' := ?_) #[bT,bT,bT,bT,bT,bT,bT,bT,bT,bT,bT,bT,bT,bT,bT,bT,bT,bT,bT,bT,bT,bT,bT,bF,bF,bF,bF,bF,bF,bF,bF,bF] rfl rfl (any_of HT_.out (by kernel_rfl)) (fun _ _ _ h => h) (Or.inr ⟨by rfl, rfl⟩) ?_ ?_
             rotate_left
             ·simp only [Act.put, qA, qB, qC, i64_w, i32_w]
              rfl
             refine pure_ (i := 23) (N := some 126) (v := undef) (a' := ?_) #[bT,bT,bT,bT,bT,bT,bT,bT,bT,bT,bT,bT,bT,bT,bT,bT,bT,bT,bT,bT,bT,bT,bT,bT,bF,bF,bF,bF,bF,bF,bF,bF] rfl rfl (any_of HT_.out (by kernel_rfl)) (fun _ _ _ h => h) (Or.inr ⟨by rfl, rfl⟩) ?_ ?_
             rotate_left
             ·simp only [Act.put, qA, qB, qC, i64_w, i32_w]
              rfl
             refine pure_ (i := 24) (N := some 127) (v := undef) (a' := ?_) #[bT,bT,bT,bT,bT,bT,bT,bT,bT,bT,bT,bT,bT,bT,bT,bT,bT,bT,bT,bT,bT,bT,bT,bT,bT,bF,bF,bF,bF,bF,bF,bF] rfl rfl (any_of HT_.out (by kernel_rfl)) (fun _ _ _ h => h) (Or.inr ⟨by rfl, rfl⟩) ?_ ?_
             rotate_left
             ·simp only [Act.put, qA, qB, qC, i64_w, i32_w]
              rfl
             refine pure_ (i := 25) (N := some 128) (v := undef) (a' := ?_) #[bT,bT,bT,bT,bT,bT,bT,bT,bT,bT,bT,bT,bT,bT,bT,bT,bT,bT,bT,bT,bT,bT,bT,bT,bT,bT,bF,bF,bF,bF,bF,bF] rfl rfl (any_of HT_.out (by kernel_rfl)) (fun _ _ _ h => h) (Or.inr ⟨by rfl, rfl⟩) ?_ ?_
             rotate_left
             ·simp only [Act.put, qA, qB, qC, i64_w, i32_w]
              rfl
             refine pure_ (i := 26) (N := some 129) (v := undef) (a' := ?_) #[bT,bT,bT,bT,bT,bT,bT,bT,bT,bT,bT,bT,bT,bT,bT,bT,bT,bT,bT,bT,bT,bT,bT,bT,bT,bT,bT,bF,bF,bF,bF,bF] rfl rfl (any_of HT_.out (by kernel_rfl)) (fun _ _ _ h => h) (Or.inr ⟨by rfl, rfl⟩) ?_ ?_
             rotate_left
             ·simp only [Act.put, qA, qB, qC, i64_w, i32_w]
              rfl
             refine pure_ (i := 27) (N := some 130) (v := undef) (a' := ?_) #[bT,bT,bT,bT,bT,bT,bT,bT,bT,bT,bT,bT,bT,bT,bT,bT,bT,bT,bT,bT,bT,bT,bT,bT,bT,bT,bT,bT,bF,bF,bF,bF] rfl rfl (any_of HT_.out (by kernel_rfl)) (fun _ _ _ h => h) (Or.inr ⟨by rfl, rfl⟩) ?_ ?_
             rotate_left
             ·simp only [Act.put, qA, qB, qC, i64_w, i32_w]
              rfl
             refine pure_ (i := 28) (N := some 131) (v := undef) (a' := ?_) #[bT,bT,bT,bT,bT,bT,bT,bT,bT,bT,bT,bT,bT,bT,bT,bT,bT,bT,bT,bT,bT,bT,bT,bT,bT,bT,bT,bT,bT,bF,bF,bF] rfl rfl (any_of HT_.out (by kernel_rfl)) (fun _ _ _ h => h) (Or.inr ⟨by rfl, rfl⟩) ?_ ?_
             rotate_left
             ·simp only [Act.put, qA, qB, qC, i64_w, i32_w]
              rfl
             refine pure_ (i := 29) (N := some 132) (v := undef) (a' := ?_) #[bT,bT,bT,bT,bT,bT,bT,bT,bT,bT,bT,bT,bT,bT,bT,bT,bT,bT,bT,bT,bT,bT,bT,bT,bT,bT,bT,bT,bT,bT,bF,bF] rfl rfl (any_of HT_.out (by kernel_rfl)) (fun _ _ _ h => h) (Or.inr ⟨by rfl, rfl⟩) ?_ ?_
             rotate_left
             ·simp only [Act.put, qA, qB, qC, i64_w, i32_w]
              rfl
             refine pure_ (i := 30) (N := some 133) (v := undef) (a' := ?_) #[bT,bT,bT,bT,bT,bT,bT,bT,bT,bT,bT,bT,bT,bT,bT,bT,bT,bT,bT,bT,bT,bT,bT,bT,bT,bT,bT,bT,bT,bT,bT,bF] rfl rfl (any_of HT_.out (by kernel_rfl)) (fun _ _ _ h => h) (Or.inr ⟨by rfl, rfl⟩) ?_ ?_
             rotate_left
             ·simp only [Act.put, qA, qB, qC, i64_w, i32_w]
              rfl
             refine pure_ (i := 31) (N := some 134) (v := ?_) (a' := ?_) #[bT,bT,bT,bT,bT,bT,bT,bT,bT,bT,bT,bT,bT,bT,bT,bT,bT,bT,bT,bT,bT,bT,bT,bT,bT,bT,bT,bT,bT,bT,bT,bT] rfl rfl (any_of HT_.out (by kernel_rfl)) (fun _ _ _ h => h) (Or.inl ⟨by rfl, ?_⟩) ?_ ?_
             rotate_left
             ·intro w'
              go_simp
              with_reducible rfl
             rotate_left
             ·simp only [Act.put, qA, qB, qC, i64_w, i32_w]
              rfl
             refine done_ (done_of HT_.out (by kernel_rfl)) ?_
             try go_wp2
             go_meet
             case rel => exact ⟨_, (true), (by first | rfl | (simp; done) | (simp [*]; done)), H', ⟨by have := HJ8.out; have := HK2.out; have := HK3.out; have := HJ36.out; have := HK5.out; first | omega | exact Nat.le_refl _⟩, ⟨by (with_reducible repeat (first | apply Kd.V_alloc | apply Kd.V_drewN | apply Kd.V_drew)); exact HO_456000.out⟩, ⟨by (with_reducible repeat (first | apply Kd.V_alloc | apply Kd.V_drewN | apply Kd.V_drew)); exact HO_456001.out⟩, ⟨by (with_reducible repeat (first | apply Kd.V_alloc | apply Kd.V_drewN | apply Kd.V_drew)); exact HO_456002.out⟩, ⟨by (with_reducible repeat (first | apply Kd.V_alloc | apply Kd.V_drewN | apply Kd.V_drew)); exact HO_456003.out⟩, ⟨by (with_reducible repeat (first | apply Kd.V_alloc | apply Kd.V_drewN | apply Kd.V_drew)); exact HO_456004.out⟩, ⟨by (with_reducible repeat (first | apply Kd.V_alloc | apply Kd.V_drewN | apply Kd.V_drew)); exact HO_456005.out⟩, ⟨by (with_reducible repeat (first | refine blk_drewN ?_ _ | refine blk_drew ?_ | refine blk_alloc ?_ _)); exact BK455.out⟩, ⟨by (with_reducible repeat (first | refine blk_drewN ?_ _ | refine blk_drew ?_ | refine blk_alloc ?_ _)); exact BK456.out⟩, ⟨lb2 HB.out GE455.out GE456.out⟩⟩
            rw [if_neg c53] at H
            have c53b0 : (t472 != t473) = false := by simpa using c53
            (try (have c53b1 : decide (t472 = t473) = true := by simpa using c53))
            (try (have c53b2 : (t472 == t473) = true := by simpa using c53))
            clear c53
            (first | rw [c53b0] | (simp only [i64_w, i32_w]; rw [c53b0]) | skip)
            replace H := Option.bind_eq_some_iff.mp H
            obtain ⟨t474, A630, H⟩ := H
            have A63 := Aside0.mk A630
            clear A630
            replace H := Option.bind_eq_some_iff.mp H
            obtain ⟨t475, A640, H⟩ := H
            have A64 := Aside0.mk A640
            clear A640
            have H' := Aside0.mk H
            clear H
            try go_wp2
            replace HO_456000 := Aside0.mk (Kd.V_drew HO_456000.out)
            replace HO_456001 := Aside0.mk (Kd.V_drew HO_456001.out)
            replace HO_456002 := Aside0.mk (Kd.V_drew HO_456002.out)
            replace HO_456003 := Aside0.mk (Kd.V_drew HO_456003.out)
            replace HO_456004 := Aside0.mk (Kd.V_drew HO_456004.out)
            replace HO_456005 := Aside0.mk (Kd.V_drew HO_456005.out)
            replace BK455 := Aside0.mk (blk_drew BK455.out)
            replace BK456 := Aside0.mk (blk_drew BK456.out)
            replace HB := Aside0.mk (below_drew1 HB.out)
            obtain ⟨Ao66, co66, eo66⟩ := Kd.V_slice HO_456000.out
            (first | subst eo66 | (injection eo66 with f1_ f2_ f3_; have f4_ := f1_.symm; have f5_ := f3_.symm; clear f1_ f2_ f3_; subst f4_; subst f5_))
            obtain ⟨Ao67, co67, eo67⟩ := Kd.V_slice HO_456001.out
            (first | subst eo67 | (injection eo67 with f1_ f2_ f3_; have f4_ := f1_.symm; have f5_ := f3_.symm; clear f1_ f2_ f3_; subst f4_; subst f5_))
            obtain ⟨Ao68, co68, eo68⟩ := Kd.V_slice HO_456002.out
            (first | subst eo68 | (injection eo68 with f1_ f2_ f3_; have f4_ := f1_.symm; have f5_ := f3_.symm; clear f1_ f2_ f3_; subst f4_; subst f5_))
            obtain ⟨Ao69, co69, eo69⟩ := Kd.V_slice HO_456003.out
            (first | subst eo69 | (injection eo69 with f1_ f2_ f3_; have f4_ := f1_.symm; have f5_ := f3_.symm; clear f1_ f2_ f3_; subst f4_; subst f5_))
            obtain ⟨Ao70, co70, eo70⟩ := Kd.V_slice HO_456004.out
            (first | subst eo70 | (injection eo70 with f1_ f2_ f3_; have f4_ := f1_.symm; have f5_ := f3_.symm; clear f1_ f2_ f3_; subst f4_; subst f5_))
            obtain ⟨Ao71, co71, eo71⟩ := Kd.V_slice HO_456005.out
            (first | subst eo71 | (injection eo71 with f1_ f2_ f3_; have f4_ := f1_.symm; have f5_ := f3_.symm; clear f1_ f2_ f3_; subst f4_; subst f5_))
            refine start_ (n := 32) (S := fun w' => w'.cell? ⟨gb455, 0, none⟩ = some (.slice Ao66 x456000_5.length co66) ∧ w'.cell? ⟨gb455, 1, none⟩ = some (.slice Ao67 x456001_5.length co67) ∧ w'.cell? ⟨gb455, 2, none⟩ = some (.slice Ao68 x456002_5.length co68) ∧ w'.cell? ⟨gb455, 3, none⟩ = some (.slice Ao69 x456003_5.length co69) ∧ w'.cell? ⟨gb455, 4, none⟩ = some (.slice Ao70 x456004_5.length co70) ∧ w'.cell? ⟨gb455, 5, none⟩ = some (.slice Ao71 x456005_5.length co71) ∧ w'.cell? ⟨gb456, 0, none⟩ = some (.bool x457000_5) ∧ w'.cell? ⟨gb456, 1, none⟩ = some (.string x457001_5) ∧ w'.cell? ⟨gb456, 2, none⟩ = some (.string x457002_5) ∧ w'.cell? ⟨gb456, 3, none⟩ = some (.string x457003_5)) (ds := []) #[bF,bF,bF,bF,bF,bF,bF,bF,bF,bF,bF,bF,bF,bF,bF,bF,bF,bF,bF,bF,bF,bF,bF,bF,bF,bF,bF,bF,bF,bF,bF,bF] (by kernel_rfl) rfl rfl ⟨(blk_cell BK455.out 0).trans rfl, (blk_cell BK455.out 1).trans rfl, (blk_cell BK455.out 2).trans rfl, (blk_cell BK455.out 3).trans rfl, (blk_cell BK455.out 4).trans rfl, (blk_cell BK455.out 5).trans rfl, (blk_cell BK456.out 0).trans rfl, (blk_cell BK456.out 1).trans rfl, (blk_cell BK456.out 2).trans rfl, (blk_cell BK456.out 3).trans rfl⟩ (fun hHeld => ?_); refine with_tabW entaillaw24_GlobTells.tab18 entaillaw24_GlobTells.bits18 (fun HT_ HW_ => ?_)
            generalize wr.drew = w65 at HO_456000 HO_456001 HO_456002 HO_456003 HO_456004 HO_456005 BK455 BK456 HB hHeld ⊢
            refine pure_ (i := 1) (N := some 104) (v := ?_) (a' := ?_) #[bF,bT,bF,bF,bF,bF,bF,bF,bF,bF,bF,bF,bF,bF,bF,bF,bF,bF,bF,bF,bF,bF,bF,bF,bF,bF,bF,bF,bF,bF,bF,bF] rfl rfl (any_of HT_.out (by kernel_rfl)) (fun _ _ _ h => h) (Or.inl ⟨by rfl, ?_⟩) ?_ ?_
            rotate_left
            ·intro w'
             go_simp
             with_reducible rfl
            rotate_left
            ·simp only [Act.put, qA, qB, qC, i64_w, i32_w]
             rfl
            refine pure_ (i := 3) (N := some 106) (v := ?_) (a' := ?_) #[bF,bT,bF,bT,bF,bF,bF,bF,bF,bF,bF,bF,bF,bF,bF,bF,bF,bF,bF,bF,bF,bF,bF,bF,bF,bF,bF,bF,bF,bF,bF,bF] rfl rfl (any_of HT_.out (by kernel_rfl)) (fun _ _ _ h => h) (Or.inl ⟨by rfl, ?_⟩) ?_ ?_
            rotate_left
            ·intro w'
             go_simp
             with_reducible rfl
            rotate_left
            ·simp only [Act.put, qA, qB, qC, i64_w, i32_w]
             rfl
            refine pure_ (i := 5) (N := some 108) (v := ?_) (a' := ?_) #[bF,bT,bF,bT,bF,bT,bF,bF,bF,bF,bF,bF,bF,bF,bF,bF,bF,bF,bF,bF,bF,bF,bF,bF,bF,bF,bF,bF,bF,bF,bF,bF] rfl rfl (any_of HT_.out (by kernel_rfl)) (fun _ _ _ h => h) (Or.inl ⟨by rfl, ?_⟩) ?_ ?_
            rotate_left
            ·intro w'
             go_simp
             with_reducible rfl
            rotate_left
            ·simp only [Act.put, qA, qB, qC, i64_w, i32_w]
             rfl
            refine pure_ (i := 9) (N := some 112) (v := ?_) (a' := ?_) #[bF,bT,bF,bT,bF,bT,bF,bF,bF,bT,bF,bF,bF,bF,bF,bF,bF,bF,bF,bF,bF,bF,bF,bF,bF,bF,bF,bF,bF,bF,bF,bF] rfl rfl (any_of HT_.out (by kernel_rfl)) (fun _ _ _ h => h) (Or.inl ⟨by rfl, ?_⟩) ?_ ?_
            rotate_left
            ·intro w'
             go_simp
             with_reducible rfl
            rotate_left
            ·simp only [Act.put, qA, qB, qC, i64_w, i32_w]
             rfl
            refine pure_ (i := 11) (N := some 114) (v := ?_) (a' := ?_) #[bF,bT,bF,bT,bF,bT,bF,bF,bF,bT,bF,bT,bF,bF,bF,bF,bF,bF,bF,bF,bF,bF,bF,bF,bF,bF,bF,bF,bF,bF,bF,bF] rfl rfl (any_of HT_.out (by kernel_rfl)) (fun _ _ _ h => h) (Or.inl ⟨by rfl, ?_⟩) ?_ ?_
            rotate_left
            ·intro w'
             go_simp
             with_reducible rfl
            rotate_left
            ·simp only [Act.put, qA, qB, qC, i64_w, i32_w]
             rfl
            refine pure_ (i := 13) (N := some 116) (v := ?_) (a' := ?_) #[bF,bT,bF,bT,bF,bT,bF,bF,bF,bT,bF,bT,bF,bT,bF,bF,bF,bF,bF,bF,bF,bF,bF,bF,bF,bF,bF,bF,bF,bF,bF,bF] rfl rfl (any_of HT_.out (by kernel_rfl)) (fun _ _ _ h => h) (Or.inl ⟨by rfl, ?_⟩) ?_ ?_
            rotate_left
            ·intro w'
             go_simp
             with_reducible rfl
            rotate_left
            ·simp only [Act.put, qA, qB, qC, i64_w, i32_w]
             rfl
            refine take_ (i := 0) (N := some 103) (v := ?_) (a' := ?_) #[bT,bT,bF,bT,bF,bT,bF,bF,bF,bT,bF,bT,bF,bT,bF,bF,bF,bF,bF,bF,bF,bF,bF,bF,bF,bF,bF,bF,bF,bF,bF,bF] rfl rfl (take_ofW HT_.out HW_.out (by kernel_rfl)) (fun _ _ _ h => h) (Or.inl ⟨by rfl, ?_⟩) hHeld ?_ ?_
            rotate_left
            ·rintro w' ⟨s0, s1, s2, s3, s4, s5, s6, s7, s8, s9⟩
             go_simp
             with_reducible rfl
            rotate_left
            ·simp only [Act.put, qA, qB, qC, i64_w, i32_w]
             rfl
            refine take_ (i := 2) (N := some 105) (v := ?_) (a' := ?_) #[bT,bT,bT,bT,bF,bT,bF,bF,bF,bT,bF,bT,bF,bT,bF,bF,bF,bF,bF,bF,bF,bF,bF,bF,bF,bF,bF,bF,bF,bF,bF,bF] rfl rfl (take_ofW HT_.out HW_.out (by kernel_rfl)) (fun _ _ _ h => h) (Or.inl ⟨by rfl, ?_⟩) hHeld ?_ ?_
            rotate_left
            ·rintro w' ⟨s0, s1, s2, s3, s4, s5, s6, s7, s8, s9⟩
             go_simp
             with_reducible rfl
            rotate_left
            ·simp only [Act.put, qA, qB, qC, i64_w, i32_w]
             rfl
            refine take_ (i := 4) (N := some 107) (v := ?_) (a' := ?_) #[bT,bT,bT,bT,bT,bT,bF,bF,bF,bT,bF,bT,bF,bT,bF,bF,bF,bF,bF,bF,bF,bF,bF,bF,bF,bF,bF,bF,bF,bF,bF,bF] rfl rfl (take_ofW HT_.out HW_.out (by kernel_rfl)) (fun _ _ _ h => h) (Or.inl ⟨by rfl, ?_⟩) hHeld ?_ ?_
            rotate_left
            ·rintro w' ⟨s0, s1, s2, s3, s4, s5, s6, s7, s8, s9⟩
             go_simp
             with_reducible rfl
            rotate_left
            ·simp only [Act.put, qA, qB, qC, i64_w, i32_w]
             rfl
            refine take_ (i := 6) (N := some 109) (v := ?_) (a' := ?_) #[bT,bT,bT,bT,bT,bT,bT,bF,bF,bT,bF,bT,bF,bT,bF,bF,bF,bF,bF,bF,bF,bF,bF,bF,bF,bF,bF,bF,bF,bF,bF,bF] rfl rfl (take_ofW HT_.out HW_.out (by kernel_rfl)) (fun _ _ _ h => h) (Or.inl ⟨by rfl, ?_⟩) hHeld ?_ ?_
            rotate_left
            ·rintro w' ⟨s0, s1, s2, s3, s4, s5, s6, s7, s8, s9⟩
             go_simp
             with_reducible rfl
            rotate_left
            ·simp only [Act.put, qA, qB, qC, i64_w, i32_w]
             rfl
            refine take_ (i := 8) (N := some 111) (v := ?_) (a' := ?_) #[bT,bT,bT,bT,bT,bT,bT,bF,bT,bT,bF,bT,bF,bT,bF,bF,bF,bF,bF,bF,bF,bF,bF,bF,bF,bF,bF,bF,bF,bF,bF,bF] rfl rfl (take_ofW HT_.out HW_.out (by kernel_rfl)) (fun _ _ _ h => h) (Or.inl ⟨by rfl, ?_⟩) hHeld ?_ ?_
            rotate_left
            ·rintro w' ⟨s0, s1, s2, s3, s4, s5, s6, s7, s8, s9⟩
             go_simp
             with_reducible rfl
            rotate_left
            ·simp only [Act.put, qA, qB, qC, i64_w, i32_w]
             rfl
            refine take_ (i := 10) (N := some 113) (v := ?_) (a' := ?_) #[bT,bT,bT,bT,bT,bT,bT,bF,bT,bT,bT,bT,bF,bT,bF,bF,bF,bF,bF,bF,bF,bF,bF,bF,bF,bF,bF,bF,bF,bF,bF,bF] rfl rfl (take_ofW HT_.out HW_.out (by kernel_rfl)) (fun _ _ _ h => h) (Or.inl ⟨by rfl, ?_⟩) hHeld ?_ ?_
            rotate_left
            ·rintro w' ⟨s0, s1, s2, s3, s4, s5, s6, s7, s8, s9⟩
             go_simp
             with_reducible rfl
            rotate_left
            ·simp only [Act.put, qA, qB, qC, i64_w, i32_w]
             rfl
            refine take_ (i := 12) (N := some 115) (v := ?_) (a' := ?_) #[bT,bT,bT,bT,bT,bT,bT,bF,bT,bT,bT,bT,bT,bT,bF,bF,bF,bF,bF,bF,bF,bF,bF,bF,bF,bF,bF,bF,bF,bF,bF,bF] rfl rfl (take_ofW HT_.out HW_.out (by kernel_rfl)) (fun _ _ _ h => h) (Or.inl ⟨by rfl, ?_⟩) hHeld ?_ ?_
            rotate_left
            ·rintro w' ⟨s0, s1, s2, s3, s4, s5, s6, s7, s8, s9⟩
             go_simp
             with_reducible rfl
            rotate_left
            ·simp only [Act.put, qA, qB, qC, i64_w, i32_w]
             rfl
            refine take_ (i := 14) (N := some 117) (v := ?_) (a' := ?_) #[bT,bT,bT,bT,bT,bT,bT,bF,bT,bT,bT,bT,bT,bT,bT,bF,bF,bF,bF,bF,bF,bF,bF,bF,bF,bF,bF,bF,bF,bF,bF,bF] rfl rfl (take_ofW HT_.out HW_.out (by kernel_rfl)) (fun _ _ _ h => h) (Or.inl ⟨by rfl, ?_⟩) hHeld ?_ ?_
            rotate_left
            ·rintro w' ⟨s0, s1, s2, s3, s4, s5, s6, s7, s8, s9⟩
             go_simp
             with_reducible rfl
            rotate_left
            ·simp only [Act.put, qA, qB, qC, i64_w, i32_w]
             rfl
            refine one_ (i := 7) (N := some 110) #[bT,bT,bT,bT,bT,bT,bT,bT,bT,bT,bT,bT,bT,bT,bT,bF,bF,bF,bF,bF,bF,bF,bF,bF,bF,bF,bF,bF,bF,bF,bF,bF] rfl rfl (one_of HT_.out (by kernel_rfl)) (by decide) (fun K hK => ?_)
            refine goes_ Try.func9 (by kernel_rfl) rfl #[.agg #[.slice Ao66 x456000_5.length co66, .slice Ao67 x456001_5.length co67, .slice Ao68 x456002_5.length co68, .slice Ao69 x456003_5.length co69, .slice Ao70 x456004_5.length co70, .slice Ao71 x456005_5.length co71], .string x457001_5, .string x457002_5, .string x457003_5] (by rfl) rfl rfl (by (try simp only [List.map_toArray, List.map_cons, List.map_nil]); first | done | rfl | (simp only [List.length_drop, List.length_take]; rfl)) ?_
            with_reducible refine (glob_May.calls k5 _ _ x456000_5 _ _ x456001_5 _ _ x456002_5 _ _ x456003_5 _ _ x456004_5 _ _ x456005_5 x457001_5 x457002_5 x457003_5 t472 _ ?side1 ?side2 ?side3 ?side4 ?side5 ?side6 ?side7 ?side8 ?side9 ?side10 ?side11 ?side12 A51.out).mono ?_
            (case side1 => exact lC (Kd.V_reads' HO_456000.out).2.2)
            (case side2 => exact (Kd.V_reads' HO_456000.out).2.1)
            (case side3 => exact lC (Kd.V_reads' HO_456001.out).2.2)
            (case side4 => exact (Kd.V_reads' HO_456001.out).2.1)
            (case side5 => exact lC (Kd.V_reads' HO_456002.out).2.2)
            (case side6 => exact (Kd.V_reads' HO_456002.out).2.1)
            (case side7 => exact lC (Kd.V_reads' HO_456003.out).2.2)
            (case side8 => exact (Kd.V_reads' HO_456003.out).2.1)
            (case side9 => exact lC (Kd.V_reads' HO_456004.out).2.2)
            (case side10 => exact (Kd.V_reads' HO_456004.out).2.1)
            (case side11 => exact lC (Kd.V_reads' HO_456005.out).2.2)
            (case side12 => exact (Kd.V_reads' HO_456005.out).2.1)
            rintro e w72 ⟨rfl, hb⟩
            refine ⟨_, rfl, ?_⟩
            replace HO_456000 := Aside0.mk (Kd.V_below (lV HO_456000.out) hb)
            replace HO_456001 := Aside0.mk (Kd.V_below (lV HO_456001.out) hb)
            replace HO_456002 := Aside0.mk (Kd.V_below (lV HO_456002.out) hb)
            replace HO_456003 := Aside0.mk (Kd.V_below (lV HO_456003.out) hb)
            replace HO_456004 := Aside0.mk (Kd.V_below (lV HO_456004.out) hb)
            replace HO_456005 := Aside0.mk (Kd.V_below (lV HO_456005.out) hb)
            replace BK455 := Aside0.mk (blk_below (g := gb455) (o := .cells #[.slice Ao66 x456000_5.length co66, .slice Ao67 x456001_5.length co67, .slice Ao68 x456002_5.length co68, .slice Ao69 x456003_5.length co69, .slice Ao70 x456004_5.length co70, .slice Ao71 x456005_5.length co71] 28 (0, 0)) (lk BK455.out) hb)
            replace BK456 := Aside0.mk (blk_below (g := gb456) (o := .cells #[.bool x457000_5, .string x457001_5, .string x457002_5, .string x457003_5] 31 (0, 0)) (lk BK456.out) hb)
            replace HB := Aside0.mk (below_step (lb2 HB.out GE455.out GE456.out) hb)
            (try clear hb)
            (try clear hb2)
            (try clear hk)
            (try clear hi)
            refine hK.out _ _ ⟨(blk_cell BK455.out 0).trans rfl, (blk_cell BK455.out 1).trans rfl, (blk_cell BK455.out 2).trans rfl, (blk_cell BK455.out 3).trans rfl, (blk_cell BK455.out 4).trans rfl, (blk_cell BK455.out 5).trans rfl, (blk_cell BK456.out 0).trans rfl, (blk_cell BK456.out 1).trans rfl, (blk_cell BK456.out 2).trans rfl, (blk_cell BK456.out 3).trans rfl⟩ (fun hHeld => ?_)
            clear hK K
            refine norm_ (a' := ?_) ?_ ?_
            rotate_left
            ·show Act.put _ (some 110) _ = _
             simp only [Act.put, qA, qB, qC, i64_w, i32_w]
             rfl
            refine one_ (i := 15) (N := some 118) #[bT,bT,bT,bT,bT,bT,bT,bT,bT,bT,bT,bT,bT,bT,bT,bT,bF,bF,bF,bF,bF,bF,bF,bF,bF,bF,bF,bF,bF,bF,bF,bF] rfl rfl (one_of HT_.out (by kernel_rfl)) (by decide) (fun K hK => ?_)
            refine goes_ Try.func18 (by kernel_rfl) rfl #[.agg #[.slice Ao66 x456000_5.length co66, .slice Ao67 x456001_5.length co67, .slice Ao68 x456002_5.length co68, .slice Ao69 x456003_5.length co69, .slice Ao70 x456004_5.length co70, .slice Ao71 x456005_5.length co71], .string x457001_5, .string x457002_5, .string x457003_5] (by rfl) rfl rfl (by (try simp only [List.map_toArray, List.map_cons, List.map_nil]); first | done | rfl | (simp only [List.length_drop, List.length_take]; rfl)) ?_
            with_reducible refine (entailref22_May.calls k5 _ _ x456000_5 _ _ x456001_5 _ _ x456002_5 _ _ x456003_5 _ _ x456004_5 _ _ x456005_5 x457001_5 x457002_5 x457003_5 t473 _ ?side1 ?side2 ?side3 ?side4 ?side5 ?side6 ?side7 ?side8 ?side9 ?side10 ?side11 ?side12 A52.out).mono ?_
            (case side1 => exact lC (Kd.V_reads' HO_456000.out).2.2)
            (case side2 => exact (Kd.V_reads' HO_456000.out).2.1)
            (case side3 => exact lC (Kd.V_reads' HO_456001.out).2.2)
            (case side4 => exact (Kd.V_reads' HO_456001.out).2.1)
            (case side5 => exact lC (Kd.V_reads' HO_456002.out).2.2)
            (case side6 => exact (Kd.V_reads' HO_456002.out).2.1)
            (case side7 => exact lC (Kd.V_reads' HO_456003.out).2.2)
            (case side8 => exact (Kd.V_reads' HO_456003.out).2.1)
            (case side9 => exact lC (Kd.V_reads' HO_456004.out).2.2)
            (case side10 => exact (Kd.V_reads' HO_456004.out).2.1)
            (case side11 => exact lC (Kd.V_reads' HO_456005.out).2.2)
            (case side12 => exact (Kd.V_reads' HO_456005.out).2.1)
            rintro e w73 ⟨rfl, hb⟩
            refine ⟨_, rfl, ?_⟩
            replace HO_456000 := Aside0.mk (Kd.V_below (lV HO_456000.out) hb)
            replace HO_456001 := Aside0.mk (Kd.V_below (lV HO_456001.out) hb)
            replace HO_456002 := Aside0.mk (Kd.V_below (lV HO_456002.out) hb)
            replace HO_456003 := Aside0.mk (Kd.V_below (lV HO_456003.out) hb)
            replace HO_456004 := Aside0.mk (Kd.V_below (lV HO_456004.out) hb)
            replace HO_456005 := Aside0.mk (Kd.V_below (lV HO_456005.out) hb)
            replace BK455 := Aside0.mk (blk_below (g := gb455) (o := .cells #[.slice Ao66 x456000_5.length co66, .slice Ao67 x456001_5.length co67, .slice Ao68 x456002_5.length co68, .slice Ao69 x456003_5.length co69, .slice Ao70 x456004_5.length co70, .slice Ao71 x456005_5.length co71] 28 (0, 0)) (lk BK455.out) hb)
            replace BK456 := Aside0.mk (blk_below (g := gb456) (o := .cells #[.bool x457000_5, .string x457001_5, .string x457002_5, .string x457003_5] 31 (0, 0)) (lk BK456.out) hb)
            replace HB := Aside0.mk (below_step (lb2 HB.out GE455.out GE456.out) hb)
            (try clear hb)
            (try clear hb2)
            (try clear hk)
            (try clear hi)
            refine hK.out _ _ ⟨(blk_cell BK455.out 0).trans rfl, (blk_cell BK455.out 1).trans rfl, (blk_cell BK455.out 2).trans rfl, (blk_cell BK455.out 3).trans rfl, (blk_cell BK455.out 4).trans rfl, (blk_cell BK455.out 5).trans rfl, (blk_cell BK456.out 0).trans rfl, (blk_cell BK456.out 1).trans rfl, (blk_cell BK456.out 2).trans rfl, (blk_cell BK456.out 3).trans rfl⟩ (fun hHeld => ?_)
            clear hK K
            refine norm_ (a' := ?_) ?_ ?_
            rotate_left
            ·show Act.put _ (some 118) _ = _
             simp only [Act.put, qA, qB, qC, i64_w, i32_w]
             rfl
            refine pure_ (i := 16) (N := some 119) (v := ?_) (a' := ?_) #[bT,bT,bT,bT,bT,bT,bT,bT,bT,bT,bT,bT,bT,bT,bT,bT,bT,bF,bF,bF,bF,bF,bF,bF,bF,bF,bF,bF,bF,bF,bF,bF] rfl rfl (any_of HT_.out (by kernel_rfl)) (fun _ _ _ h => h) (Or.inl ⟨by rfl, ?_⟩) ?_ ?_
            rotate_left
            ·intro w'
             go_simp
             with_reducible rfl
            rotate_left
            ·simp only [Act.put, qA, qB, qC, i64_w, i32_w]
             rfl
            refine pure_ (i := 17) (N := some 120) (v := ?_) (a' := ?_) #[bT,bT,bT,bT,bT,bT,bT,bT,bT,bT,bT,bT,bT,bT,bT,bT,bT,bT,bF,bF,bF,bF,bF,bF,bF,bF,bF,bF,bF,bF,bF,bF] rfl rfl (any_of HT_.out (by kernel_rfl)) (fun _ _ _ h => h) (Or.inl ⟨by rfl, ?_⟩) ?_ ?_
            rotate_left
            ·intro w'
             go_simp
             with_reducible rfl
            rotate_left
            ·simp only [Act.put, qA, qB, qC, i64_w, i32_w]
             rfl
            refine pure_ (i := 19) (N := some 122) (v := ?_) (a' := ?_) #[bT,bT,bT,bT,bT,bT,bT,bT,bT,bT,bT,bT,bT,bT,bT,bT,bT,bT,bF,bT,bF,bF,bF,bF,bF,bF,bF,bF,bF,bF,bF,bF] rfl rfl (any_of HT_.out (by kernel_rfl)) (fun _ _ _ h => h) (Or.inl ⟨by rfl, ?_⟩) ?_ ?_
            rotate_left
            ·intro w'
             go_simp
             with_reducible rfl
            rotate_left
            ·simp only [Act.put, qA, qB, qC, i64_w, i32_w]
             rfl
            refine pure_ (i := 21) (N := some 124) (v := ?_) (a' := ?_) #[bT,bT,bT,bT,bT,bT,bT,bT,bT,bT,bT,bT,bT,bT,bT,bT,bT,bT,bF,bT,bF,bT,bF,bF,bF,bF,bF,bF,bF,bF,bF,bF] rfl rfl (any_of HT_.out (by kernel_rfl)) (fun _ _ _ h => h) (Or.inl ⟨by rfl, ?_⟩) ?_ ?_
            rotate_left
            ·intro w'
             go_simp
             with_reducible rfl
            rotate_left
            ·simp only [Act.put, qA, qB, qC, i64_w, i32_w]
             rfl
            refine pure_ (i := 25) (N := some 128) (v := ?_) (a' := ?_) #[bT,bT,bT,bT,bT,bT,bT,bT,bT,bT,bT,bT,bT,bT,bT,bT,bT,bT,bF,bT,bF,bT,bF,bF,bF,bT,bF,bF,bF,bF,bF,bF] rfl rfl (any_of HT_.out (by kernel_rfl)) (fun _ _ _ h => h) (Or.inl ⟨by rfl, ?_⟩) ?_ ?_
            rotate_left
            ·intro w'
             go_simp
             with_reducible rfl
            rotate_left
            ·simp only [Act.put, qA, qB, qC, i64_w, i32_w]
             rfl
            refine pure_ (i := 27) (N := some 130) (v := ?_) (a' := ?_) #[bT,bT,bT,bT,bT,bT,bT,bT,bT,bT,bT,bT,bT,bT,bT,bT,bT,bT,bF,bT,bF,bT,bF,bF,bF,bT,bF,bT,bF,bF,bF,bF] rfl rfl (any_of HT_.out (by kernel_rfl)) (fun _ _ _ h => h) (Or.inl ⟨by rfl, ?_⟩) ?_ ?_
            rotate_left
            ·intro w'
             go_simp
             with_reducible rfl
            rotate_left
            ·simp only [Act.put, qA, qB, qC, i64_w, i32_w]
             rfl
            refine take_ (i := 18) (N := some 121) (v := ?_) (a' := ?_) #[bT,bT,bT,bT,bT,bT,bT,bT,bT,bT,bT,bT,bT,bT,bT,bT,bT,bT,bT,bT,bF,bT,bF,bF,bF,bT,bF,bT,bF,bF,bF,bF] rfl rfl (take_ofW HT_.out HW_.out (by kernel_rfl)) (fun _ _ _ h => h) (Or.inl ⟨by rfl, ?_⟩) hHeld ?_ ?_
            rotate_left
            ·rintro w' ⟨s0, s1, s2, s3, s4, s5, s6, s7, s8, s9⟩
             go_simp
             with_reducible rfl
            rotate_left
            ·simp only [Act.put, qA, qB, qC, i64_w, i32_w]
             rfl
            refine take_ (i := 20) (N := some 123) (v := ?_) (a' := ?_) #[bT,bT,bT,bT,bT,bT,bT,bT,bT,bT,bT,bT,bT,bT,bT,bT,bT,bT,bT,bT,bT,bT,bF,bF,bF,bT,bF,bT,bF,bF,bF,bF] rfl rfl (take_ofW HT_.out HW_.out (by kernel_rfl)) (fun _ _ _ h => h) (Or.inl ⟨by rfl, ?_⟩) hHeld ?_ ?_
            rotate_left
            ·rintro w' ⟨s0, s1, s2, s3, s4, s5, s6, s7, s8, s9⟩
             go_simp
             with_reducible rfl
            rotate_left
            ·simp only [Act.put, qA, qB, qC, i64_w, i32_w]
             rfl
            refine take_ (i := 22) (N := some 125) (v := ?_) (a' := ?_) #[bT,bT,bT,bT,bT,bT,bT,bT,bT,bT,bT,bT,bT,bT,bT,bT,bT,bT,bT,bT,bT,bT,bT,bF,bF,bT,bF,bT,bF,bF,bF,bF] rfl rfl (take_ofW HT_.out HW_.out (by kernel_rfl)) (fun _ _ _ h => h) (Or.inl ⟨by rfl, ?_⟩) hHeld ?_ ?_
            rotate_left
            ·rintro w' ⟨s0, s1, s2, s3, s4, s5, s6, s7, s8, s9⟩
             go_simp
             with_reducible rfl
            rotate_left
            ·simp only [Act.put, qA, qB, qC, i64_w, i32_w]
             rfl
            refine take_ (i := 24) (N := some 127) (v := ?_) (a' := ?_) #[bT,bT,bT,bT,bT,bT,bT,bT,bT,bT,bT,bT,bT,bT,bT,bT,bT,bT,bT,bT,bT,bT,bT,bF,bT,bT,bF,bT,bF,bF,bF,bF] rfl rfl (take_ofW HT_.out HW_.out (by kernel_rfl)) (fun _ _ _ h => h) (Or.inl ⟨by rfl, ?_⟩) hHeld ?_ ?_
            rotate_left
            ·rintro w' ⟨s0, s1, s2, s3, s4, s5, s6, s7, s8, s9⟩
             go_simp
             with_reducible rfl
            rotate_left
            ·simp only [Act.put, qA, qB, qC, i64_w, i32_w]
             rfl
            refine take_ (i := 26) (N := some 129) (v := ?_) (a' := ?_) #[bT,bT,bT,bT,bT,bT,bT,bT,bT,bT,bT,bT,bT,bT,bT,bT,bT,bT,bT,bT,bT,bT,bT,bF,bT,bT,bT,bT,bF,bF,bF,bF] rfl rfl (take_ofW HT_.out HW_.out (by kernel_rfl)) (fun _ _ _ h => h) (Or.inl ⟨by rfl, ?_⟩) hHeld ?_ ?_
            rotate_left
            ·rintro w' ⟨s0, s1, s2, s3, s4, s5, s6, s7, s8, s9⟩
             go_simp
             with_reducible rfl
            rotate_left
            ·simp only [Act.put, qA, qB, qC, i64_w, i32_w]
             rfl
            refine take_ (i := 28) (N := some 131) (v := ?_) (a' := ?_) #[bT,bT,bT,bT,bT,bT,bT,bT,bT,bT,bT,bT,bT,bT,bT,bT,bT,bT,bT,bT,bT,bT,bT,bF,bT,bT,bT,bT,bT,bF,bF,bF] rfl rfl (take_ofW HT_.out HW_.out (by kernel_rfl)) (fun _ _ _ h => h) (Or.inl ⟨by rfl, ?_⟩) hHeld ?_ ?_
            rotate_left
            ·rintro w' ⟨s0, s1, s2, s3, s4, s5, s6, s7, s8, s9⟩
             go_simp
             with_reducible rfl
            rotate_left
            ·simp only [Act.put, qA, qB, qC, i64_w, i32_w]
             rfl
            refine one_ (i := 23) (N := some 126) #[bT,bT,bT,bT,bT,bT,bT,bT,bT,bT,bT,bT,bT,bT,bT,bT,bT,bT,bT,bT,bT,bT,bT,bT,bT,bT,bT,bT,bT,bF,bF,bF] rfl rfl (one_of HT_.out (by kernel_rfl)) (by decide) (fun K hK => ?_)
            refine goes_ Try.func10 (by kernel_rfl) rfl #[.agg #[.slice Ao66 x456000_5.length co66, .slice Ao67 x456001_5.length co67, .slice Ao68 x456002_5.length co68, .slice Ao69 x456003_5.length co69, .slice Ao70 x456004_5.length co70, .slice Ao71 x456005_5.length co71], .string x457001_5, .string x457002_5] (by rfl) rfl rfl (by (try simp only [List.map_toArray, List.map_cons, List.map_nil]); first | done | rfl | (simp only [List.length_drop, List.length_take]; rfl)) ?_
            with_reducible refine (glob_In.calls k5 _ _ x456000_5 _ _ x456001_5 _ _ x456002_5 _ _ x456003_5 _ _ x456004_5 _ _ x456005_5 x457001_5 x457002_5 t474 _ ?side1 ?side2 ?side3 ?side4 ?side5 ?side6 ?side7 ?side8 ?side9 ?side10 ?side11 ?side12 A63.out).mono ?_
            (case side1 => exact lC (Kd.V_reads' HO_456000.out).2.2)
            (case side2 => exact (Kd.V_reads' HO_456000.out).2.1)
            (case side3 => exact lC (Kd.V_reads' HO_456001.out).2.2)
            (case side4 => exact (Kd.V_reads' HO_456001.out).2.1)
            (case side5 => exact lC (Kd.V_reads' HO_456002.out).2.2)
            (case side6 => exact (Kd.V_reads' HO_456002.out).2.1)
            (case side7 => exact lC (Kd.V_reads' HO_456003.out).2.2)
            (case side8 => exact (Kd.V_reads' HO_456003.out).2.1)
            (case side9 => exact lC (Kd.V_reads' HO_456004.out).2.2)
            (case side10 => exact (Kd.V_reads' HO_456004.out).2.1)
            (case side11 => exact lC (Kd.V_reads' HO_456005.out).2.2)
            (case side12 => exact (Kd.V_reads' HO_456005.out).2.1)
            rintro e w74 ⟨rfl, hb⟩
            refine ⟨_, rfl, ?_⟩
            replace HO_456000 := Aside0.mk (Kd.V_below (lV HO_456000.out) hb)
            replace HO_456001 := Aside0.mk (Kd.V_below (lV HO_456001.out) hb)
            replace HO_456002 := Aside0.mk (Kd.V_below (lV HO_456002.out) hb)
            replace HO_456003 := Aside0.mk (Kd.V_below (lV HO_456003.out) hb)
            replace HO_456004 := Aside0.mk (Kd.V_below (lV HO_456004.out) hb)
            replace HO_456005 := Aside0.mk (Kd.V_below (lV HO_456005.out) hb)
            replace BK455 := Aside0.mk (blk_below (g := gb455) (o := .cells #[.slice Ao66 x456000_5.length co66, .slice Ao67 x456001_5.length co67, .slice Ao68 x456002_5.length co68, .slice Ao69 x456003_5.length co69, .slice Ao70 x456004_5.length co70, .slice Ao71 x456005_5.length co71] 28 (0, 0)) (lk BK455.out) hb)
            replace BK456 := Aside0.mk (blk_below (g := gb456) (o := .cells #[.bool x457000_5, .string x457001_5, .string x457002_5, .string x457003_5] 31 (0, 0)) (lk BK456.out) hb)
            replace HB := Aside0.mk (below_step (lb2 HB.out GE455.out GE456.out) hb)
            (try clear hb)
            (try clear hb2)
            (try clear hk)
            (try clear hi)
            refine hK.out _ _ ⟨(blk_cell BK455.out 0).trans rfl, (blk_cell BK455.out 1).trans rfl, (blk_cell BK455.out 2).trans rfl, (blk_cell BK455.out 3).trans rfl, (blk_cell BK455.out 4).trans rfl, (blk_cell BK455.out 5).trans rfl, (blk_cell BK456.out 0).trans rfl, (blk_cell BK456.out 1).trans rfl, (blk_cell BK456.out 2).trans rfl, (blk_cell BK456.out 3).trans rfl⟩ (fun hHeld => ?_)
            clear hK K
            refine norm_ (a' := ?_) ?_ ?_
            rotate_left
            ·show Act.put _ (some 126) _ = _
             simp only [Act.put, qA, qB, qC, i64_w, i32_w]
             rfl
            refine one_ (i := 29) (N := some 132) #[bT,bT,bT,bT,bT,bT,bT,bT,bT,bT,bT,bT,bT,bT,bT,bT,bT,bT,bT,bT,bT,bT,bT,bT,bT,bT,bT,bT,bT,bT,bF,bF] rfl rfl (one_of HT_.out (by kernel_rfl)) (by decide) (fun K hK => ?_)
            refine goes_ Try.func19 (by kernel_rfl) rfl #[.agg #[.slice Ao66 x456000_5.length co66, .slice Ao67 x456001_5.length co67, .slice Ao68 x456002_5.length co68, .slice Ao69 x456003_5.length co69, .slice Ao70 x456004_5.length co70, .slice Ao71 x456005_5.length co71], .string x457001_5, .string x457002_5] (by rfl) rfl rfl (by (try simp only [List.map_toArray, List.map_cons, List.map_nil]); first | done | rfl | (simp only [List.length_drop, List.length_take]; rfl)) ?_
            with_reducible refine (entailref22_Inside.calls k5 _ _ x456000_5 _ _ x456001_5 _ _ x456002_5 _ _ x456003_5 _ _ x456004_5 _ _ x456005_5 x457001_5 x457002_5 t475 _ ?side1 ?side2 ?side3 ?side4 ?side5 ?side6 ?side7 ?side8 ?side9 ?side10 ?side11 ?side12 A64.out).mono ?_
            (case side1 => exact lC (Kd.V_reads' HO_456000.out).2.2)
            (case side2 => exact (Kd.V_reads' HO_456000.out).2.1)
            (case side3 => exact lC (Kd.V_reads' HO_456001.out).2.2)
            (case side4 => exact (Kd.V_reads' HO_456001.out).2.1)
            (case side5 => exact lC (Kd.V_reads' HO_456002.out).2.2)
            (case side6 => exact (Kd.V_reads' HO_456002.out).2.1)
            (case side7 => exact lC (Kd.V_reads' HO_456003.out).2.2)
            (case side8 => exact (Kd.V_reads' HO_456003.out).2.1)
            (case side9 => exact lC (Kd.V_reads' HO_456004.out).2.2)
            (case side10 => exact (Kd.V_reads' HO_456004.out).2.1)
            (case side11 => exact lC (Kd.V_reads' HO_456005.out).2.2)
            (case side12 => exact (Kd.V_reads' HO_456005.out).2.1)
            rintro e w75 ⟨rfl, hb⟩
            refine ⟨_, rfl, ?_⟩
            replace HO_456000 := Aside0.mk (Kd.V_below (lV HO_456000.out) hb)
            replace HO_456001 := Aside0.mk (Kd.V_below (lV HO_456001.out) hb)
            replace HO_456002 := Aside0.mk (Kd.V_below (lV HO_456002.out) hb)
            replace HO_456003 := Aside0.mk (Kd.V_below (lV HO_456003.out) hb)
            replace HO_456004 := Aside0.mk (Kd.V_below (lV HO_456004.out) hb)
            replace HO_456005 := Aside0.mk (Kd.V_below (lV HO_456005.out) hb)
            replace BK455 := Aside0.mk (blk_below (g := gb455) (o := .cells #[.slice Ao66 x456000_5.length co66, .slice Ao67 x456001_5.length co67, .slice Ao68 x456002_5.length co68, .slice Ao69 x456003_5.length co69, .slice Ao70 x456004_5.length co70, .slice Ao71 x456005_5.length co71] 28 (0, 0)) (lk BK455.out) hb)
            replace BK456 := Aside0.mk (blk_below (g := gb456) (o := .cells #[.bool x457000_5, .string x457001_5, .string x457002_5, .string x457003_5] 31 (0, 0)) (lk BK456.out) hb)
            replace HB := Aside0.mk (below_step (lb2 HB.out GE455.out GE456.out) hb)
            (try clear hb)
            (try clear hb2)
            (try clear hk)
            (try clear hi)
            refine hK.out _ _ ⟨(blk_cell BK455.out 0).trans rfl, (blk_cell BK455.out 1).trans rfl, (blk_cell BK455.out 2).trans rfl, (blk_cell BK455.out 3).trans rfl, (blk_cell BK455.out 4).trans rfl, (blk_cell BK455.out 5).trans rfl, (blk_cell BK456.out 0).trans rfl, (blk_cell BK456.out 1).trans rfl, (blk_cell BK456.out 2).trans rfl, (blk_cell BK456.out 3).trans rfl⟩ (fun hHeld => ?_)
            clear hK K
            refine norm_ (a' := ?_) ?_ ?_
            rotate_left
            ·show Act.put _ (some 132) _ = _
             simp only [Act.put, qA, qB, qC, i64_w, i32_w]
             rfl
            refine pure_ (i := 30) (N := some 133) (v := ?_) (a' := ?_) #[bT,bT,bT,bT,bT,bT,bT,bT,bT,bT,bT,bT,bT,bT,bT,bT,bT,bT,bT,bT,bT,bT,bT,bT,bT,bT,bT,bT,bT,bT,bT,bF] rfl rfl (any_of HT_.out (by kernel_rfl)) (fun _ _ _ h => h) (Or.inl ⟨by rfl, ?_⟩) ?_ ?_
            rotate_left
            ·intro w'
             go_simp
             with_reducible rfl
            rotate_left
            ·simp only [Act.put, qA, qB, qC, i64_w, i32_w]
             rfl
            refine pure_ (i := 31) (N := some 134) (v := ?_) (a' := ?_) #[bT,bT,bT,bT,bT,bT,bT,bT,bT,bT,bT,bT,bT,bT,bT,bT,bT,bT,bT,bT,bT,bT,bT,bT,bT,bT,bT,bT,bT,bT,bT,bT] rfl rfl (any_of HT_.out (by kernel_rfl)) (fun _ _ _ h => h) (Or.inl ⟨by rfl, ?_⟩) ?_ ?_
            rotate_left
            ·intro w'
             go_simp
             with_reducible rfl
            rotate_left
            ·simp only [Act.put, qA, qB, qC, i64_w, i32_w]
             rfl
            refine done_ (done_of HT_.out (by kernel_rfl)) ?_
            try go_wp2
            go_meet
            case rel => exact ⟨_, ((t474 != t475)), (by first | rfl | (simp; done) | (simp [*]; done)), H', ⟨by have := HJ8.out; have := HK2.out; have := HK3.out; have := HJ36.out; have := HK5.out; first | omega | exact Nat.le_refl _⟩, ⟨by (with_reducible repeat (first | apply Kd.V_alloc | apply Kd.V_drewN | apply Kd.V_drew)); exact HO_456000.out⟩, ⟨by (with_reducible repeat (first | apply Kd.V_alloc | apply Kd.V_drewN | apply Kd.V_drew)); exact HO_456001.out⟩, ⟨by (with_reducible repeat (first | apply Kd.V_alloc | apply Kd.V_drewN | apply Kd.V_drew)); exact HO_456002.out⟩, ⟨by (with_reducible repeat (first | apply Kd.V_alloc | apply Kd.V_drewN | apply Kd.V_drew)); exact HO_456003.out⟩, ⟨by (with_reducible repeat (first | apply Kd.V_alloc | apply Kd.V_drewN | apply Kd.V_drew)); exact HO_456004.out⟩, ⟨by (with_reducible repeat (first | apply Kd.V_alloc | apply Kd.V_drewN | apply Kd.V_drew)); exact HO_456005.out⟩, ⟨by (with_reducible repeat (first | refine blk_drewN ?_ _ | refine blk_drew ?_ | refine blk_alloc ?_ _)); exact BK455.out⟩, ⟨by (with_reducible repeat (first | refine blk_drewN ?_ _ | refine blk_drew ?_ | refine blk_alloc ?_ _)); exact BK456.out⟩, ⟨lb2 HB.out GE455.out GE456.out⟩⟩
           case rest =>
            clear HC50
            try clear c1
            try clear p2
            try clear c5
            try clear c9
            try clear c10
            try clear c18
            try clear c19
            try clear c53
            try clear c53b0
            try clear c53b1
            try clear c53b2
            obtain ⟨kq, x134_49, rfl, HA, HJ49, HO_456000, HO_456001, HO_456002, HO_456003, HO_456004, HO_456005, BK455, BK456, HB⟩ := hcut
            cases kq with
            | zero => exact absurd HA.out (by simp [entaillaw24_GlobTells.j5])
            | succ kj49 =>
             have H := HA.out
             clear HA
             simp only [entaillaw24_GlobTells.j5] at H
             by_cases c76 : x134_49 = true
             ·subst c76
              have H1 : (some false) = some r := by rw [if_pos rfl] at H; exact H
              clear H
              have H := H1
              clear H1
              obtain rfl := Option.some.inj H
              go_wp2
              go_ret
              exact ⟨by first | rfl | (simp [errW_none, errW_some] <;> rfl) | (simp [*, errW_none, errW_some] <;> rfl), lb2 HB.out GE455.out GE456.out⟩
             replace c76 := Bool.eq_false_iff.mpr c76
             subst c76
             have H1 : ((entaillaw23_Made.f kj49 l5).bind fun bt476 => ((entaillaw24_Ask.f a7).bind fun bt494 => (entaillaw24_GlobTells.l2 kj49 l5 a7 (wrap64 (x19_5 + 1)) bt476.1 bt476.2.1 bt476.2.2.1 bt476.2.2.2.1 bt476.2.2.2.2.1 bt476.2.2.2.2.2 bt494.1 bt494.2.1 bt494.2.2.1 bt494.2.2.2))) = some r := by rw [if_neg (show ¬ (false = true) by decide)] at H; exact H
             clear H
             have H := H1
             clear H1
             replace H := Option.bind_eq_some_iff.mp H
             obtain ⟨⟨t476, t479, t482, t485, t488, t491⟩, A770, H⟩ := H
             replace H : ((entaillaw24_Ask.f a7).bind fun bt494 => (entaillaw24_GlobTells.l2 kj49 l5 a7 (wrap64 (x19_5 + 1)) t476 t479 t482 t485 t488 t491 bt494.1 bt494.2.1 bt494.2.2.1 bt494.2.2.2)) = some r := H
             have A77 := Aside0.mk A770
             clear A770
             replace H := Option.bind_eq_some_iff.mp H
             obtain ⟨⟨t494, t495, t496, t497⟩, A780, H⟩ := H
             replace H : (entaillaw24_GlobTells.l2 kj49 l5 a7 (wrap64 (x19_5 + 1)) t476 t479 t482 t485 t488 t491 t494 t495 t496 t497) = some r := H
             have A78 := Aside0.mk A780
             clear A780
             have H' := Aside0.mk H
             clear H
             go_wp2_with (first | ((with_reducible refine gate_callee (f := 7) rfl ?_); refine goesL_ (some 136) rfl rfl Try.func7 (by kernel_rfl) rfl #[.slice A5 l5.length c5] rfl (by (try simp only [List.map_toArray, List.map_cons, List.map_nil]); first | done | rfl | (simp only [List.length_drop, List.length_take]; rfl)) ?_; (with_reducible refine (entaillaw23_Made.callsV kj49 _ _ l5 t476 t479 t482 t485 t488 t491 _ ?side1 ?side2 A77.out).mono ?_); (case side1 => exact lC (Kd.C_below HR5.out HB.out)); (case side2 => exact HC5.out); rintro e w79 ⟨v477, v480, v483, v486, v489, v492, rfl, ho0, ho1, ho2, ho3, ho4, ho5, hb⟩; refine ⟨_, rfl, ?_⟩; replace HO_456000 := Aside0.mk (Kd.V_below (lV HO_456000.out) hb); replace HO_456001 := Aside0.mk (Kd.V_below (lV HO_456001.out) hb); replace HO_456002 := Aside0.mk (Kd.V_below (lV HO_456002.out) hb); replace HO_456003 := Aside0.mk (Kd.V_below (lV HO_456003.out) hb); replace HO_456004 := Aside0.mk (Kd.V_below (lV HO_456004.out) hb); replace HO_456005 := Aside0.mk (Kd.V_below (lV HO_456005.out) hb); have HO478 := Aside0.mk (Kd.V_lower (Kd.V_mono (ok' := fun k_ => ((P4_0_ k_ ∨ P4_1_ k_ ∨ P4_2_ k_ ∨ P4_3_ k_ ∨ P4_4_ k_ ∨ P4_5_ k_) ∨ w.heap.size ≤ k_) ∧ k_ ≠ gb455 ∧ k_ ≠ gb456) ho0 (fun k_ hk_ => ⟨(.inr (Nat.le_trans (below_size (lb2 HB.out GE455.out GE456.out)) hk_)), (Kd.freshB (g := gb455) (o := .cells #[u456000, u456001, u456002, u456003, u456004, u456005] 28 (0, 0)) (lk BK455.out) k_ hk_), (Kd.freshB (g := gb456) (o := .cells #[.bool x457000_5, .string x457001_5, .string x457002_5, .string x457003_5] 31 (0, 0)) (lk BK456.out) k_ hk_)⟩)) (below_size (lb2 HB.out GE455.out GE456.out))); have HO481 := Aside0.mk (Kd.V_lower (Kd.V_mono (ok' := fun k_ => ((P4_0_ k_ ∨ P4_1_ k_ ∨ P4_2_ k_ ∨ P4_3_ k_ ∨ P4_4_ k_ ∨ P4_5_ k_) ∨ w.heap.size ≤ k_) ∧ k_ ≠ gb455 ∧ k_ ≠ gb456) ho1 (fun k_ hk_ => ⟨(.inr (Nat.le_trans (below_size (lb2 HB.out GE455.out GE456.out)) hk_)), (Kd.freshB (g := gb455) (o := .cells #[u456000, u456001, u456002, u456003, u456004, u456005] 28 (0, 0)) (lk BK455.out) k_ hk_), (Kd.freshB (g := gb456) (o := .cells #[.bool x457000_5, .string x457001_5, .string x457002_5, .string x457003_5] 31 (0, 0)) (lk BK456.out) k_ hk_)⟩)) (below_size (lb2 HB.out GE455.out GE456.out))); have HO484 := Aside0.mk (Kd.V_lower (Kd.V_mono (ok' := fun k_ => ((P4_0_ k_ ∨ P4_1_ k_ ∨ P4_2_ k_ ∨ P4_3_ k_ ∨ P4_4_ k_ ∨ P4_5_ k_) ∨ w.heap.size ≤ k_) ∧ k_ ≠ gb455 ∧ k_ ≠ gb456) ho2 (fun k_ hk_ => ⟨(.inr (Nat.le_trans (below_size (lb2 HB.out GE455.out GE456.out)) hk_)), (Kd.freshB (g := gb455) (o := .cells #[u456000, u456001, u456002, u456003, u456004, u456005] 28 (0, 0)) (lk BK455.out) k_ hk_), (Kd.freshB (g := gb456) (o := .cells #[.bool x457000_5, .string x457001_5, .string x457002_5, .string x457003_5] 31 (0, 0)) (lk BK456.out) k_ hk_)⟩)) (below_size (lb2 HB.out GE455.out GE456.out))); have HO487 := Aside0.mk (Kd.V_lower (Kd.V_mono (ok' := fun k_ => ((P4_0_ k_ ∨ P4_1_ k_ ∨ P4_2_ k_ ∨ P4_3_ k_ ∨ P4_4_ k_ ∨ P4_5_ k_) ∨ w.heap.size ≤ k_) ∧ k_ ≠ gb455 ∧ k_ ≠ gb456) ho3 (fun k_ hk_ => ⟨(.inr (Nat.le_trans (below_size (lb2 HB.out GE455.out GE456.out)) hk_)), (Kd.freshB (g := gb455) (o := .cells #[u456000, u456001, u456002, u456003, u456004, u456005] 28 (0, 0)) (lk BK455.out) k_ hk_), (Kd.freshB (g := gb456) (o := .cells #[.bool x457000_5, .string x457001_5, .string x457002_5, .string x457003_5] 31 (0, 0)) (lk BK456.out) k_ hk_)⟩)) (below_size (lb2 HB.out GE455.out GE456.out))); have HO490 := Aside0.mk (Kd.V_lower (Kd.V_mono (ok' := fun k_ => ((P4_0_ k_ ∨ P4_1_ k_ ∨ P4_2_ k_ ∨ P4_3_ k_ ∨ P4_4_ k_ ∨ P4_5_ k_) ∨ w.heap.size ≤ k_) ∧ k_ ≠ gb455 ∧ k_ ≠ gb456) ho4 (fun k_ hk_ => ⟨(.inr (Nat.le_trans (below_size (lb2 HB.out GE455.out GE456.out)) hk_)), (Kd.freshB (g := gb455) (o := .cells #[u456000, u456001, u456002, u456003, u456004, u456005] 28 (0, 0)) (lk BK455.out) k_ hk_), (Kd.freshB (g := gb456) (o := .cells #[.bool x457000_5, .string x457001_5, .string x457002_5, .string x457003_5] 31 (0, 0)) (lk BK456.out) k_ hk_)⟩)) (below_size (lb2 HB.out GE455.out GE456.out))); have HO493 := Aside0.mk (Kd.V_lower (Kd.V_mono (ok' := fun k_ => ((P4_0_ k_ ∨ P4_1_ k_ ∨ P4_2_ k_ ∨ P4_3_ k_ ∨ P4_4_ k_ ∨ P4_5_ k_) ∨ w.heap.size ≤ k_) ∧ k_ ≠ gb455 ∧ k_ ≠ gb456) ho5 (fun k_ hk_ => ⟨(.inr (Nat.le_trans (below_size (lb2 HB.out GE455.out GE456.out)) hk_)), (Kd.freshB (g := gb455) (o := .cells #[u456000, u456001, u456002, u456003, u456004, u456005] 28 (0, 0)) (lk BK455.out) k_ hk_), (Kd.freshB (g := gb456) (o := .cells #[.bool x457000_5, .string x457001_5, .string x457002_5, .string x457003_5] 31 (0, 0)) (lk BK456.out) k_ hk_)⟩)) (below_size (lb2 HB.out GE455.out GE456.out))); replace BK455 := Aside0.mk (blk_below (g := gb455) (o := .cells #[u456000, u456001, u456002, u456003, u456004, u456005] 28 (0, 0)) (lk BK455.out) hb); replace BK456 := Aside0.mk (blk_below (g := gb456) (o := .cells #[.bool x457000_5, .string x457001_5, .string x457002_5, .string x457003_5] 31 (0, 0)) (lk BK456.out) hb); replace HB := Aside0.mk (below_step (lb2 HB.out GE455.out GE456.out) hb); (try clear hb); (try clear hb2); (try clear hk); (try clear hi); (try clear ho0); (try clear ho1); (try clear ho2); (try clear ho3); (try clear ho4); (try clear ho5)) | ((with_reducible refine gate_callee (f := 8) rfl ?_); refine goesL_ (some 138) rfl rfl Try.func8 (by kernel_rfl) rfl #[.int .i64 a7] rfl (by (try simp only [List.map_toArray, List.map_cons, List.map_nil]); first | done | rfl | (simp only [List.length_drop, List.length_take]; rfl)) ?_; (with_reducible refine (entaillaw24_Ask.calls a7 t494 t495 t496 t497 _ A78.out).mono ?_); rintro e w80 ⟨rfl, hb⟩; refine ⟨_, rfl, ?_⟩; replace HO_456000 := Aside0.mk (Kd.V_below (lV HO_456000.out) hb); replace HO_456001 := Aside0.mk (Kd.V_below (lV HO_456001.out) hb); replace HO_456002 := Aside0.mk (Kd.V_below (lV HO_456002.out) hb); replace HO_456003 := Aside0.mk (Kd.V_below (lV HO_456003.out) hb); replace HO_456004 := Aside0.mk (Kd.V_below (lV HO_456004.out) hb); replace HO_456005 := Aside0.mk (Kd.V_below (lV HO_456005.out) hb); replace HO478 := Aside0.mk (Kd.V_below (lV HO478.out) hb); replace HO481 := Aside0.mk (Kd.V_below (lV HO481.out) hb); replace HO484 := Aside0.mk (Kd.V_below (lV HO484.out) hb); replace HO487 := Aside0.mk (Kd.V_below (lV HO487.out) hb); replace HO490 := Aside0.mk (Kd.V_below (lV HO490.out) hb); replace HO493 := Aside0.mk (Kd.V_below (lV HO493.out) hb); replace BK455 := Aside0.mk (blk_below (g := gb455) (o := .cells #[u456000, u456001, u456002, u456003, u456004, u456005] 28 (0, 0)) (lk BK455.out) hb); replace BK456 := Aside0.mk (blk_below (g := gb456) (o := .cells #[.bool x457000_5, .string x457001_5, .string x457002_5, .string x457003_5] 31 (0, 0)) (lk BK456.out) hb); replace HB := Aside0.mk (below_step (lb2 HB.out GE455.out GE456.out) hb); (try clear hb); (try clear hb2); (try clear hk); (try clear hi); obtain ⟨Ao81, co81, eo81⟩ := Kd.V_slice HO478.out; subst eo81; have hnb82 := NB455_456.out; have hnc82 := NB456_455.out; have hcz83_0 : w80.cell? ⟨gb455, 0, none⟩ = some (u456000) := (blk_cell BK455.out 0).trans rfl; have hcz83_1 : w80.cell? ⟨gb455, 1, none⟩ = some (u456001) := (blk_cell BK455.out 1).trans rfl; have hcz83_2 : w80.cell? ⟨gb455, 2, none⟩ = some (u456002) := (blk_cell BK455.out 2).trans rfl; have hcz83_3 : w80.cell? ⟨gb455, 3, none⟩ = some (u456003) := (blk_cell BK455.out 3).trans rfl; have hcz83_4 : w80.cell? ⟨gb455, 4, none⟩ = some (u456004) := (blk_cell BK455.out 4).trans rfl; have hcz83_5 : w80.cell? ⟨gb455, 5, none⟩ = some (u456005) := (blk_cell BK455.out 5).trans rfl; have hfz83_0 := blk_frozen BK455.out 0; have hfz83_1 := blk_frozen BK455.out 1; have hfz83_2 := blk_frozen BK455.out 2; have hfz83_3 := blk_frozen BK455.out 3; have hfz83_4 := blk_frozen BK455.out 4; have hfz83_5 := blk_frozen BK455.out 5; obtain ⟨Ao84, co84, eo84⟩ := Kd.V_slice HO481.out; subst eo84; obtain ⟨Ao85, co85, eo85⟩ := Kd.V_slice HO484.out; subst eo85; obtain ⟨Ao86, co86, eo86⟩ := Kd.V_slice HO487.out; subst eo86; obtain ⟨Ao87, co87, eo87⟩ := Kd.V_slice HO490.out; subst eo87; obtain ⟨Ao88, co88, eo88⟩ := Kd.V_slice HO493.out; subst eo88; have hcz89_0 : w80.cell? ⟨gb456, 0, none⟩ = some (.bool x457000_5) := (blk_cell BK456.out 0).trans rfl; have hcz89_1 : w80.cell? ⟨gb456, 1, none⟩ = some (.string x457001_5) := (blk_cell BK456.out 1).trans rfl; have hcz89_2 : w80.cell? ⟨gb456, 2, none⟩ = some (.string x457002_5) := (blk_cell BK456.out 2).trans rfl; have hcz89_3 : w80.cell? ⟨gb456, 3, none⟩ = some (.string x457003_5) := (blk_cell BK456.out 3).trans rfl; have hfz89_0 := blk_frozen BK456.out 0; have hfz89_1 := blk_frozen BK456.out 1; have hfz89_2 := blk_frozen BK456.out 2; have hfz89_3 := blk_frozen BK456.out 3))
             go_roundg kj49
             case measure => have := HJ8.out; have := HK2.out; have := HK3.out; have := HJ36.out; have := HK5.out; have := HJ49.out; omega
             case rel => exact ⟨(wrap64 (x19_5 + 1)), (t476), (t479), (t482), (t485), (t488), (t491), (t494), (t495), (t496), (t497), (.slice Ao81 t476.length co81), (.slice Ao84 t479.length co84), (.slice Ao85 t482.length co85), (.slice Ao86 t485.length co86), (.slice Ao87 t488.length co87), (.slice Ao88 t491.length co88), (by first | rfl | (simp; done) | (simp [*]; done)), H', ⟨by have := HJ8.out; have := HK2.out; have := HK3.out; have := HJ36.out; have := HK5.out; have := HJ49.out; omega⟩, ⟨by (with_reducible repeat (first | apply Kd.V_alloc | apply Kd.V_drewN | apply Kd.V_drew)); exact Kd.V_mono (Kd.V_far (p := ⟨gb456, 3, none⟩) (Kd.V_far (p := ⟨gb456, 2, none⟩) (Kd.V_far (p := ⟨gb456, 1, none⟩) (Kd.V_far (p := ⟨gb456, 0, none⟩) (Kd.V_far (p := ⟨gb455, 5, none⟩) (Kd.V_far (p := ⟨gb455, 4, none⟩) (Kd.V_far (p := ⟨gb455, 3, none⟩) (Kd.V_far (p := ⟨gb455, 2, none⟩) (Kd.V_far (p := ⟨gb455, 1, none⟩) (Kd.V_far (p := ⟨gb455, 0, none⟩) (Kd.V_mono (Kd.V_mono HO478.out (fun k_ hk => (⟨hk, hk.2.1⟩ : _ ∧ k_ ≠ gb455))) (fun k_ hk => (⟨hk, hk.1.2.2⟩ : _ ∧ k_ ≠ gb456))) (fun _ hk => hk.1.2) (.slice Ao81 t476.length co81)) (fun _ hk => hk.1.2) (.slice Ao84 t479.length co84)) (fun _ hk => hk.1.2) (.slice Ao85 t482.length co85)) (fun _ hk => hk.1.2) (.slice Ao86 t485.length co86)) (fun _ hk => hk.1.2) (.slice Ao87 t488.length co87)) (fun _ hk => hk.1.2) (.slice Ao88 t491.length co88)) (fun _ hk => hk.2) (.bool t494)) (fun _ hk => hk.2) (.string t495)) (fun _ hk => hk.2) (.string t496)) (fun _ hk => hk.2) (.string t497)) (fun _ hk => ⟨hk.1.1.1, ⟨hk.1.1.2.1, hk.1.1.2.2⟩⟩)⟩, ⟨by (with_reducible repeat (first | apply Kd.V_alloc | apply Kd.V_drewN | apply Kd.V_drew)); exact Kd.V_mono (Kd.V_far (p := ⟨gb456, 3, none⟩) (Kd.V_far (p := ⟨gb456, 2, none⟩) (Kd.V_far (p := ⟨gb456, 1, none⟩) (Kd.V_far (p := ⟨gb456, 0, none⟩) (Kd.V_far (p := ⟨gb455, 5, none⟩) (Kd.V_far (p := ⟨gb455, 4, none⟩) (Kd.V_far (p := ⟨gb455, 3, none⟩) (Kd.V_far (p := ⟨gb455, 2, none⟩) (Kd.V_far (p := ⟨gb455, 1, none⟩) (Kd.V_far (p := ⟨gb455, 0, none⟩) (Kd.V_mono (Kd.V_mono HO481.out (fun k_ hk => (⟨hk, hk.2.1⟩ : _ ∧ k_ ≠ gb455))) (fun k_ hk => (⟨hk, hk.1.2.2⟩ : _ ∧ k_ ≠ gb456))) (fun _ hk => hk.1.2) (.slice Ao81 t476.length co81)) (fun _ hk => hk.1.2) (.slice Ao84 t479.length co84)) (fun _ hk => hk.1.2) (.slice Ao85 t482.length co85)) (fun _ hk => hk.1.2) (.slice Ao86 t485.length co86)) (fun _ hk => hk.1.2) (.slice Ao87 t488.length co87)) (fun _ hk => hk.1.2) (.slice Ao88 t491.length co88)) (fun _ hk => hk.2) (.bool t494)) (fun _ hk => hk.2) (.string t495)) (fun _ hk => hk.2) (.string t496)) (fun _ hk => hk.2) (.string t497)) (fun _ hk => ⟨hk.1.1.1, ⟨hk.1.1.2.1, hk.1.1.2.2⟩⟩)⟩, ⟨by (with_reducible repeat (first | apply Kd.V_alloc | apply Kd.V_drewN | apply Kd.V_drew)); exact Kd.V_mono (Kd.V_far (p := ⟨gb456, 3, none⟩) (Kd.V_far (p := ⟨gb456, 2, none⟩) (Kd.V_far (p := ⟨gb456, 1, none⟩) (Kd.V_far (p := ⟨gb456, 0, none⟩) (Kd.V_far (p := ⟨gb455, 5, none⟩) (Kd.V_far (p := ⟨gb455, 4, none⟩) (Kd.V_far (p := ⟨gb455, 3, none⟩) (Kd.V_far (p := ⟨gb455, 2, none⟩) (Kd.V_far (p := ⟨gb455, 1, none⟩) (Kd.V_far (p := ⟨gb455, 0, none⟩) (Kd.V_mono (Kd.V_mono HO484.out (fun k_ hk => (⟨hk, hk.2.1⟩ : _ ∧ k_ ≠ gb455))) (fun k_ hk => (⟨hk, hk.1.2.2⟩ : _ ∧ k_ ≠ gb456))) (fun _ hk => hk.1.2) (.slice Ao81 t476.length co81)) (fun _ hk => hk.1.2) (.slice Ao84 t479.length co84)) (fun _ hk => hk.1.2) (.slice Ao85 t482.length co85)) (fun _ hk => hk.1.2) (.slice Ao86 t485.length co86)) (fun _ hk => hk.1.2) (.slice Ao87 t488.length co87)) (fun _ hk => hk.1.2) (.slice Ao88 t491.length co88)) (fun _ hk => hk.2) (.bool t494)) (fun _ hk => hk.2) (.string t495)) (fun _ hk => hk.2) (.string t496)) (fun _ hk => hk.2) (.string t497)) (fun _ hk => ⟨hk.1.1.1, ⟨hk.1.1.2.1, hk.1.1.2.2⟩⟩)⟩, ⟨by (with_reducible repeat (first | apply Kd.V_alloc | apply Kd.V_drewN | apply Kd.V_drew)); exact Kd.V_mono (Kd.V_far (p := ⟨gb456, 3, none⟩) (Kd.V_far (p := ⟨gb456, 2, none⟩) (Kd.V_far (p := ⟨gb456, 1, none⟩) (Kd.V_far (p := ⟨gb456, 0, none⟩) (Kd.V_far (p := ⟨gb455, 5, none⟩) (Kd.V_far (p := ⟨gb455, 4, none⟩) (Kd.V_far (p := ⟨gb455, 3, none⟩) (Kd.V_far (p := ⟨gb455, 2, none⟩) (Kd.V_far (p := ⟨gb455, 1, none⟩) (Kd.V_far (p := ⟨gb455, 0, none⟩) (Kd.V_mono (Kd.V_mono HO487.out (fun k_ hk => (⟨hk, hk.2.1⟩ : _ ∧ k_ ≠ gb455))) (fun k_ hk => (⟨hk, hk.1.2.2⟩ : _ ∧ k_ ≠ gb456))) (fun _ hk => hk.1.2) (.slice Ao81 t476.length co81)) (fun _ hk => hk.1.2) (.slice Ao84 t479.length co84)) (fun _ hk => hk.1.2) (.slice Ao85 t482.length co85)) (fun _ hk => hk.1.2) (.slice Ao86 t485.length co86)) (fun _ hk => hk.1.2) (.slice Ao87 t488.length co87)) (fun _ hk => hk.1.2) (.slice Ao88 t491.length co88)) (fun _ hk => hk.2) (.bool t494)) (fun _ hk => hk.2) (.string t495)) (fun _ hk => hk.2) (.string t496)) (fun _ hk => hk.2) (.string t497)) (fun _ hk => ⟨hk.1.1.1, ⟨hk.1.1.2.1, hk.1.1.2.2⟩⟩)⟩, ⟨by (with_reducible repeat (first | apply Kd.V_alloc | apply Kd.V_drewN | apply Kd.V_drew)); exact Kd.V_mono (Kd.V_far (p := ⟨gb456, 3, none⟩) (Kd.V_far (p := ⟨gb456, 2, none⟩) (Kd.V_far (p := ⟨gb456, 1, none⟩) (Kd.V_far (p := ⟨gb456, 0, none⟩) (Kd.V_far (p := ⟨gb455, 5, none⟩) (Kd.V_far (p := ⟨gb455, 4, none⟩) (Kd.V_far (p := ⟨gb455, 3, none⟩) (Kd.V_far (p := ⟨gb455, 2, none⟩) (Kd.V_far (p := ⟨gb455, 1, none⟩) (Kd.V_far (p := ⟨gb455, 0, none⟩) (Kd.V_mono (Kd.V_mono HO490.out (fun k_ hk => (⟨hk, hk.2.1⟩ : _ ∧ k_ ≠ gb455))) (fun k_ hk => (⟨hk, hk.1.2.2⟩ : _ ∧ k_ ≠ gb456))) (fun _ hk => hk.1.2) (.slice Ao81 t476.length co81)) (fun _ hk => hk.1.2) (.slice Ao84 t479.length co84)) (fun _ hk => hk.1.2) (.slice Ao85 t482.length co85)) (fun _ hk => hk.1.2) (.slice Ao86 t485.length co86)) (fun _ hk => hk.1.2) (.slice Ao87 t488.length co87)) (fun _ hk => hk.1.2) (.slice Ao88 t491.length co88)) (fun _ hk => hk.2) (.bool t494)) (fun _ hk => hk.2) (.string t495)) (fun _ hk => hk.2) (.string t496)) (fun _ hk => hk.2) (.string t497)) (fun _ hk => ⟨hk.1.1.1, ⟨hk.1.1.2.1, hk.1.1.2.2⟩⟩)⟩, ⟨by (with_reducible repeat (first | apply Kd.V_alloc | apply Kd.V_drewN | apply Kd.V_drew)); exact Kd.V_mono (Kd.V_far (p := ⟨gb456, 3, none⟩) (Kd.V_far (p := ⟨gb456, 2, none⟩) (Kd.V_far (p := ⟨gb456, 1, none⟩) (Kd.V_far (p := ⟨gb456, 0, none⟩) (Kd.V_far (p := ⟨gb455, 5, none⟩) (Kd.V_far (p := ⟨gb455, 4, none⟩) (Kd.V_far (p := ⟨gb455, 3, none⟩) (Kd.V_far (p := ⟨gb455, 2, none⟩) (Kd.V_far (p := ⟨gb455, 1, none⟩) (Kd.V_far (p := ⟨gb455, 0, none⟩) (Kd.V_mono (Kd.V_mono HO493.out (fun k_ hk => (⟨hk, hk.2.1⟩ : _ ∧ k_ ≠ gb455))) (fun k_ hk => (⟨hk, hk.1.2.2⟩ : _ ∧ k_ ≠ gb456))) (fun _ hk => hk.1.2) (.slice Ao81 t476.length co81)) (fun _ hk => hk.1.2) (.slice Ao84 t479.length co84)) (fun _ hk => hk.1.2) (.slice Ao85 t482.length co85)) (fun _ hk => hk.1.2) (.slice Ao86 t485.length co86)) (fun _ hk => hk.1.2) (.slice Ao87 t488.length co87)) (fun _ hk => hk.1.2) (.slice Ao88 t491.length co88)) (fun _ hk => hk.2) (.bool t494)) (fun _ hk => hk.2) (.string t495)) (fun _ hk => hk.2) (.string t496)) (fun _ hk => hk.2) (.string t497)) (fun _ hk => ⟨hk.1.1.1, ⟨hk.1.1.2.1, hk.1.1.2.2⟩⟩)⟩, ⟨by (with_reducible repeat (first | refine blk_drewN ?_ _ | refine blk_drew ?_ | refine blk_alloc ?_ _)); refine blk_far ?_ NB455_456.out _; (with_reducible repeat (first | refine blk_drewN ?_ _ | refine blk_drew ?_ | refine blk_alloc ?_ _)); refine blk_far ?_ NB455_456.out _; (with_reducible repeat (first | refine blk_drewN ?_ _ | refine blk_drew ?_ | refine blk_alloc ?_ _)); refine blk_far ?_ NB455_456.out _; (with_reducible repeat (first | refine blk_drewN ?_ _ | refine blk_drew ?_ | refine blk_alloc ?_ _)); refine blk_far ?_ NB455_456.out _; (with_reducible repeat (first | refine blk_drewN ?_ _ | refine blk_drew ?_ | refine blk_alloc ?_ _)); refine blk_put (cs := #[.slice Ao81 t476.length co81, .slice Ao84 t479.length co84, .slice Ao85 t482.length co85, .slice Ao86 t485.length co86, .slice Ao87 t488.length co87, u456005]) ?_ 5 _ rfl; (with_reducible repeat (first | refine blk_drewN ?_ _ | refine blk_drew ?_ | refine blk_alloc ?_ _)); refine blk_put (cs := #[.slice Ao81 t476.length co81, .slice Ao84 t479.length co84, .slice Ao85 t482.length co85, .slice Ao86 t485.length co86, u456004, u456005]) ?_ 4 _ rfl; (with_reducible repeat (first | refine blk_drewN ?_ _ | refine blk_drew ?_ | refine blk_alloc ?_ _)); refine blk_put (cs := #[.slice Ao81 t476.length co81, .slice Ao84 t479.length co84, .slice Ao85 t482.length co85, u456003, u456004, u456005]) ?_ 3 _ rfl; (with_reducible repeat (first | refine blk_drewN ?_ _ | refine blk_drew ?_ | refine blk_alloc ?_ _)); refine blk_put (cs := #[.slice Ao81 t476.length co81, .slice Ao84 t479.length co84, u456002, u456003, u456004, u456005]) ?_ 2 _ rfl; (with_reducible repeat (first | refine blk_drewN ?_ _ | refine blk_drew ?_ | refine blk_alloc ?_ _)); refine blk_put (cs := #[.slice Ao81 t476.length co81, u456001, u456002, u456003, u456004, u456005]) ?_ 1 _ rfl; (with_reducible repeat (first | refine blk_drewN ?_ _ | refine blk_drew ?_ | refine blk_alloc ?_ _)); refine blk_put (cs := #[u456000, u456001, u456002, u456003, u456004, u456005]) ?_ 0 _ rfl; (with_reducible repeat (first | refine blk_drewN ?_ _ | refine blk_drew ?_ | refine blk_alloc ?_ _)); exact BK455.out⟩, ⟨by (with_reducible repeat (first | refine blk_drewN ?_ _ | refine blk_drew ?_ | refine blk_alloc ?_ _)); refine blk_put (cs := #[.bool t494, .string t495, .string t496, .string x457003_5]) ?_ 3 _ rfl; (with_reducible repeat (first | refine blk_drewN ?_ _ | refine blk_drew ?_ | refine blk_alloc ?_ _)); refine blk_put (cs := #[.bool t494, .string t495, .string x457002_5, .string x457003_5]) ?_ 2 _ rfl; (with_reducible repeat (first | refine blk_drewN ?_ _ | refine blk_drew ?_ | refine blk_alloc ?_ _)); refine blk_put (cs := #[.bool t494, .string x457001_5, .string x457002_5, .string x457003_5]) ?_ 1 _ rfl; (with_reducible repeat (first | refine blk_drewN ?_ _ | refine blk_drew ?_ | refine blk_alloc ?_ _)); refine blk_put (cs := #[.bool x457000_5, .string x457001_5, .string x457002_5, .string x457003_5]) ?_ 0 _ rfl; (with_reducible repeat (first | refine blk_drewN ?_ _ | refine blk_drew ?_ | refine blk_alloc ?_ _)); refine blk_far ?_ NB456_455.out _; (with_reducible repeat (first | refine blk_drewN ?_ _ | refine blk_drew ?_ | refine blk_alloc ?_ _)); refine blk_far ?_ NB456_455.out _; (with_reducible repeat (first | refine blk_drewN ?_ _ | refine blk_drew ?_ | refine blk_alloc ?_ _)); refine blk_far ?_ NB456_455.out _; (with_reducible repeat (first | refine blk_drewN ?_ _ | refine blk_drew ?_ | refine blk_alloc ?_ _)); refine blk_far ?_ NB456_455.out _; (with_reducible repeat (first | refine blk_drewN ?_ _ | refine blk_drew ?_ | refine blk_alloc ?_ _)); refine blk_far ?_ NB456_455.out _; (with_reducible repeat (first | refine blk_drewN ?_ _ | refine blk_drew ?_ | refine blk_alloc ?_ _)); refine blk_far ?_ NB456_455.out _; (with_reducible repeat (first | refine blk_drewN ?_ _ | refine blk_drew ?_ | refine blk_alloc ?_ _)); exact BK456.out⟩, ⟨lb2 HB.out GE455.out GE456.out⟩⟩

end Go.Proofs.Ytppndhbeglcioaa.GA
