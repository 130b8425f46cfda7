-- Written by gprint.py, a program of this session's: the kit's printer over contracts that were proved by hand. Lean checks it.
import Derived.Test.YtamgobcahgcejaaDoorGBx0
import Derived.Test.YtamgobcahgcejaaDoorMark
import Derived.Test.YtamgobcahgcejaaDoorGBx8
import Derived.Test.YtamgobcahgcejaaDoorGBx11
namespace Go.Proofs.YtamgobcahgcejaaDoor.GB
open Go.RowKit Go.Proofs.YtamgobcahgcejaaDoorW.PrintWords Go.Proofs.YtamgobcahgcejaaDoorW.PrintLast Go.Proofs.YtamgobcahgcejaaDoorW.PrintMore
attribute [local go_sem] max2_int min2_int max_two min_two max_three min_three max_four min_four   -- for this text's walks alone
set_option linter.unusedVariables false
set_option linter.unusedSimpArgs false

/-! ### entaillaw12_LineBounds: function 6 -/
mutual
def entaillaw12_LineBounds.l0 : Nat → Int → Int → Int → Int → List Int → List Int → Int → Int → Option (Bool)
  | 0, _, _, _, _, _, _, _, _ => none
  | k + 1, x0, x1, x2, x3, x9, x10, x35, x36 => if x36 < x35 then (if 0 ≤ x36 then (if x36 < (x9.length : Int) then (entaillaw12_LineBounds.l0 k x0 x1 x2 x3 (x9.set (x36 : Int).toNat 97) x10 x35 (wrap64 (x36 + 1))) else (none)) else (none)) else (entaillaw12_LineBounds.l1 k x0 x1 x2 x3 x9 x10 (x10.length : Int) 0)
def entaillaw12_LineBounds.l1 : Nat → Int → Int → Int → Int → List Int → List Int → Int → Int → Option (Bool)
  | 0, _, _, _, _, _, _, _, _ => none
  | k + 1, x0, x1, x2, x3, x9, x10, x44, x45 => if x45 < x44 then (if 0 ≤ x45 then (if x45 < (x10.length : Int) then (entaillaw12_LineBounds.l1 k x0 x1 x2 x3 x9 (x10.set (x45 : Int).toNat 10) x44 (wrap64 (x45 + 1))) else (none)) else (none)) else ((some (([117, 115, 101, 114, 32, 97, 10, 114, 111, 108, 101, 32, 98, 10] : List Int) : List Int)).bind fun y133 => (if (y133.length : Int) = 0 then (none) else (if 0 ≤ (Int.tmod (Go.bits .and .i64 x3 255) (y133.length : Int)) then (if (Int.tmod (Go.bits .and .i64 x3 255) (y133.length : Int)) < (y133.length : Int) then (if (rd y133 (Int.tmod (Go.bits .and .i64 x3 255) (y133.length : Int))) = 10 then (entaillaw12_LineBounds.j2 k x0 x1 x2 (wrap64 ((Int.tmod (Go.bits .and .i64 x3 255) (y133.length : Int)) - 1)) x9 x10 y133) else (entaillaw12_LineBounds.j2 k x0 x1 x2 (Int.tmod (Go.bits .and .i64 x3 255) (y133.length : Int)) x9 x10 y133)) else (none)) else (none))))
def entaillaw12_LineBounds.j2 : Nat → Int → Int → Int → Int → List Int → List Int → List Int → Option (Bool)
  | 0, _, _, _, _, _, _, _ => none
  | k + 1, x0, x1, x2, x3, x9, x10, x13 => if 0 ≤ x3 then (if x3 < (x13.length : Int) then ((some (x13.set (x3 : Int).toNat x2 : List Int)).bind fun y137 => ((line_Lines.f k (strOfNums x9)).bind fun bt138 => ((line_Lines.f k (strOfNums x10)).bind fun bt143 => ((line_Lines.f k (strOfNums y137)).bind fun bt148 => (if x2 = 9 then (entaillaw12_LineBounds.j3 k x0 x1 x2 x3 y137 bt138.2.2 bt143.2.2 bt148.2.1 bt148.2.2 true) else (if x2 = 10 then (entaillaw12_LineBounds.j3 k x0 x1 x2 x3 y137 bt138.2.2 bt143.2.2 bt148.2.1 bt148.2.2 true) else (if x2 ≥ 32 then (if x2 ≤ 126 then (entaillaw12_LineBounds.j3 k x0 x1 x2 x3 y137 bt138.2.2 bt143.2.2 bt148.2.1 bt148.2.2 true) else (if x2 = 13 then (if x3 = 5 then (entaillaw12_LineBounds.j3 k x0 x1 x2 x3 y137 bt138.2.2 bt143.2.2 bt148.2.1 bt148.2.2 true) else (entaillaw12_LineBounds.j3 k x0 x1 x2 x3 y137 bt138.2.2 bt143.2.2 bt148.2.1 bt148.2.2 (x3 == 12))) else (entaillaw12_LineBounds.j3 k x0 x1 x2 x3 y137 bt138.2.2 bt143.2.2 bt148.2.1 bt148.2.2 false))) else (if x2 = 13 then (if x3 = 5 then (entaillaw12_LineBounds.j3 k x0 x1 x2 x3 y137 bt138.2.2 bt143.2.2 bt148.2.1 bt148.2.2 true) else (entaillaw12_LineBounds.j3 k x0 x1 x2 x3 y137 bt138.2.2 bt143.2.2 bt148.2.1 bt148.2.2 (x3 == 12))) else (entaillaw12_LineBounds.j3 k x0 x1 x2 x3 y137 bt138.2.2 bt143.2.2 bt148.2.1 bt148.2.2 false))))))))) else (none)) else (none)
def entaillaw12_LineBounds.j3 : Nat → Int → Int → Int → Int → List Int → Int → Int → Int → Int → Bool → Option (Bool)
  | 0, _, _, _, _, _, _, _, _, _, _ => none
  | k + 1, x0, x1, x2, x3, x13, x16, x19, x21, x22, x23 => if (wrap64 (x3 + 1)) < (x13.length : Int) then (if 0 ≤ (wrap64 (x3 + 1)) then (if (rd x13 (wrap64 (x3 + 1))) = 10 then (entaillaw12_LineBounds.j4 k x0 x1 x3 x16 x19 x21 x22 x23 (x2 == 13)) else (entaillaw12_LineBounds.j4 k x0 x1 x3 x16 x19 x21 x22 x23 false)) else (none)) else (entaillaw12_LineBounds.j4 k x0 x1 x3 x16 x19 x21 x22 x23 false)
def entaillaw12_LineBounds.j4 : Nat → Int → Int → Int → Int → Int → Int → Int → Bool → Bool → Option (Bool)
  | 0, _, _, _, _, _, _, _, _, _ => none
  | k + 1, x0, x1, x3, x16, x19, x21, x22, x23, x133 => if x133 = true then (entaillaw12_LineBounds.j5 k x0 x1 x3 x16 x19 x21 x22 true) else (entaillaw12_LineBounds.j5 k x0 x1 x3 x16 x19 x21 x22 x23)
def entaillaw12_LineBounds.j5 : Nat → Int → Int → Int → Int → Int → Int → Int → Bool → Option (Bool)
  | 0, _, _, _, _, _, _, _, _ => none
  | k + 1, x0, x1, x3, x16, x19, x21, x22, x23 => if ((x16 == 8) == (decide (x0 > 200000))) = true then (if ((x19 == 8) == (decide (x1 > 5000))) = true then (if ((x22 == 0) == x23) = true then (if x23 = true then ((entaillaw12_awake.f k).bind fun t154 => (some t154)) else (if x22 = 7 then (if x21 = x3 then ((entaillaw12_awake.f k).bind fun t155 => (some t155)) else (some false)) else (some false))) else (some false)) else (some false)) else (some false)
end
def entaillaw12_LineBounds.f (k : Nat) (a0 : Int) (a1 : Int) (a2 : Int) (a3 : Int) : Option (Bool) := if 0 ≤ (wrap64 (199990 + (Go.bits .and .i64 a0 31))) then (if (wrap64 (199990 + (Go.bits .and .i64 a0 31)) : Int).toNat ≤ 281474976710656 then ((some (List.replicate (wrap64 (199990 + (Go.bits .and .i64 a0 31)) : Int).toNat 0 : List Int)).bind fun y125 => (if 0 ≤ (wrap64 (4990 + (Go.bits .and .i64 a1 31))) then (if (wrap64 (4990 + (Go.bits .and .i64 a1 31)) : Int).toNat ≤ 281474976710656 then (entaillaw12_LineBounds.l0 k (wrap64 (199990 + (Go.bits .and .i64 a0 31))) (wrap64 (4990 + (Go.bits .and .i64 a1 31))) a2 a3 y125 (List.replicate (wrap64 (4990 + (Go.bits .and .i64 a1 31)) : Int).toNat 0) (y125.length : Int) 0) else (none)) else (none))) else (none)) else (none)
theorem entaillaw12_LineBounds.mono_l : ∀ k, (∀ y0 y1 y2 y3 y4 y5 y6 y7, LeO (entaillaw12_LineBounds.l0 k y0 y1 y2 y3 y4 y5 y6 y7) (entaillaw12_LineBounds.l0 (k + 1) y0 y1 y2 y3 y4 y5 y6 y7)) ∧ (∀ y0 y1 y2 y3 y4 y5 y6 y7, LeO (entaillaw12_LineBounds.l1 k y0 y1 y2 y3 y4 y5 y6 y7) (entaillaw12_LineBounds.l1 (k + 1) y0 y1 y2 y3 y4 y5 y6 y7)) ∧ (∀ y0 y1 y2 y3 y4 y5 y6, LeO (entaillaw12_LineBounds.j2 k y0 y1 y2 y3 y4 y5 y6) (entaillaw12_LineBounds.j2 (k + 1) y0 y1 y2 y3 y4 y5 y6)) ∧ (∀ y0 y1 y2 y3 y4 y5 y6 y7 y8 y9, LeO (entaillaw12_LineBounds.j3 k y0 y1 y2 y3 y4 y5 y6 y7 y8 y9) (entaillaw12_LineBounds.j3 (k + 1) y0 y1 y2 y3 y4 y5 y6 y7 y8 y9)) ∧ (∀ y0 y1 y2 y3 y4 y5 y6 y7 y8, LeO (entaillaw12_LineBounds.j4 k y0 y1 y2 y3 y4 y5 y6 y7 y8) (entaillaw12_LineBounds.j4 (k + 1) y0 y1 y2 y3 y4 y5 y6 y7 y8)) ∧ (∀ y0 y1 y2 y3 y4 y5 y6 y7, LeO (entaillaw12_LineBounds.j5 k y0 y1 y2 y3 y4 y5 y6 y7) (entaillaw12_LineBounds.j5 (k + 1) y0 y1 y2 y3 y4 y5 y6 y7))
  | 0 => ⟨fun _ _ _ _ _ _ _ _ r h => by simp [entaillaw12_LineBounds.l0] at h, fun _ _ _ _ _ _ _ _ r h => by simp [entaillaw12_LineBounds.l1] at h, fun _ _ _ _ _ _ _ r h => by simp [entaillaw12_LineBounds.j2] at h, fun _ _ _ _ _ _ _ _ _ _ r h => by simp [entaillaw12_LineBounds.j3] at h, fun _ _ _ _ _ _ _ _ _ r h => by simp [entaillaw12_LineBounds.j4] at h, fun _ _ _ _ _ _ _ _ r h => by simp [entaillaw12_LineBounds.j5] at h⟩
  | k + 1 => by
    obtain ⟨ih0, ih1, ih2, ih3, ih4, ih5⟩ := entaillaw12_LineBounds.mono_l k
    refine ⟨?_, ?_, ?_, ?_, ?_, ?_⟩
    · intro y0 y1 y2 y3 y4 y5 y6 y7
      unfold entaillaw12_LineBounds.l0
      repeat' first
      | (with_reducible exact ih0 _ _ _ _ _ _ _ _)
      | (with_reducible exact ih1 _ _ _ _ _ _ _ _)
      | (with_reducible exact ih2 _ _ _ _ _ _ _)
      | (with_reducible exact ih3 _ _ _ _ _ _ _ _ _ _)
      | (with_reducible exact ih4 _ _ _ _ _ _ _ _ _)
      | (with_reducible exact ih5 _ _ _ _ _ _ _ _)
      | (with_reducible exact entaillaw12_awake.mono _)
      | (with_reducible exact line_Lines.mono _ _)
      | (with_reducible exact LeO.refl _)
      | (with_reducible exact LeO.none _)
      | (with_reducible refine LeO.ite ?_ ?_)
      | (with_reducible refine LeO.bind ?_ (fun _ => ?_))
      | exact ih0 _ _ _ _ _ _ _ _
      | exact ih1 _ _ _ _ _ _ _ _
      | exact ih2 _ _ _ _ _ _ _
      | exact ih3 _ _ _ _ _ _ _ _ _ _
      | exact ih4 _ _ _ _ _ _ _ _ _
      | exact ih5 _ _ _ _ _ _ _ _
      | exact entaillaw12_awake.mono _
      | exact line_Lines.mono _ _
      | exact LeO.none _
      | refine LeO.ite ?_ ?_
      | refine LeO.bind ?_ (fun _ => ?_)
    · intro y0 y1 y2 y3 y4 y5 y6 y7
      unfold entaillaw12_LineBounds.l1
      repeat' first
      | (with_reducible exact ih0 _ _ _ _ _ _ _ _)
      | (with_reducible exact ih1 _ _ _ _ _ _ _ _)
      | (with_reducible exact ih2 _ _ _ _ _ _ _)
      | (with_reducible exact ih3 _ _ _ _ _ _ _ _ _ _)
      | (with_reducible exact ih4 _ _ _ _ _ _ _ _ _)
      | (with_reducible exact ih5 _ _ _ _ _ _ _ _)
      | (with_reducible exact entaillaw12_awake.mono _)
      | (with_reducible exact line_Lines.mono _ _)
      | (with_reducible exact LeO.refl _)
      | (with_reducible exact LeO.none _)
      | (with_reducible refine LeO.ite ?_ ?_)
      | (with_reducible refine LeO.bind ?_ (fun _ => ?_))
      | exact ih0 _ _ _ _ _ _ _ _
      | exact ih1 _ _ _ _ _ _ _ _
      | exact ih2 _ _ _ _ _ _ _
      | exact ih3 _ _ _ _ _ _ _ _ _ _
      | exact ih4 _ _ _ _ _ _ _ _ _
      | exact ih5 _ _ _ _ _ _ _ _
      | exact entaillaw12_awake.mono _
      | exact line_Lines.mono _ _
      | exact LeO.none _
      | refine LeO.ite ?_ ?_
      | refine LeO.bind ?_ (fun _ => ?_)
    · intro y0 y1 y2 y3 y4 y5 y6
      unfold entaillaw12_LineBounds.j2
      repeat' first
      | (with_reducible exact ih0 _ _ _ _ _ _ _ _)
      | (with_reducible exact ih1 _ _ _ _ _ _ _ _)
      | (with_reducible exact ih2 _ _ _ _ _ _ _)
      | (with_reducible exact ih3 _ _ _ _ _ _ _ _ _ _)
      | (with_reducible exact ih4 _ _ _ _ _ _ _ _ _)
      | (with_reducible exact ih5 _ _ _ _ _ _ _ _)
      | (with_reducible exact entaillaw12_awake.mono _)
      | (with_reducible exact line_Lines.mono _ _)
      | (with_reducible exact LeO.refl _)
      | (with_reducible exact LeO.none _)
      | (with_reducible refine LeO.ite ?_ ?_)
      | (with_reducible refine LeO.bind ?_ (fun _ => ?_))
      | exact ih0 _ _ _ _ _ _ _ _
      | exact ih1 _ _ _ _ _ _ _ _
      | exact ih2 _ _ _ _ _ _ _
      | exact ih3 _ _ _ _ _ _ _ _ _ _
      | exact ih4 _ _ _ _ _ _ _ _ _
      | exact ih5 _ _ _ _ _ _ _ _
      | exact entaillaw12_awake.mono _
      | exact line_Lines.mono _ _
      | exact LeO.none _
      | refine LeO.ite ?_ ?_
      | refine LeO.bind ?_ (fun _ => ?_)
    · intro y0 y1 y2 y3 y4 y5 y6 y7 y8 y9
      unfold entaillaw12_LineBounds.j3
      repeat' first
      | (with_reducible exact ih0 _ _ _ _ _ _ _ _)
      | (with_reducible exact ih1 _ _ _ _ _ _ _ _)
      | (with_reducible exact ih2 _ _ _ _ _ _ _)
      | (with_reducible exact ih3 _ _ _ _ _ _ _ _ _ _)
      | (with_reducible exact ih4 _ _ _ _ _ _ _ _ _)
      | (with_reducible exact ih5 _ _ _ _ _ _ _ _)
      | (with_reducible exact entaillaw12_awake.mono _)
      | (with_reducible exact line_Lines.mono _ _)
      | (with_reducible exact LeO.refl _)
      | (with_reducible exact LeO.none _)
      | (with_reducible refine LeO.ite ?_ ?_)
      | (with_reducible refine LeO.bind ?_ (fun _ => ?_))
      | exact ih0 _ _ _ _ _ _ _ _
      | exact ih1 _ _ _ _ _ _ _ _
      | exact ih2 _ _ _ _ _ _ _
      | exact ih3 _ _ _ _ _ _ _ _ _ _
      | exact ih4 _ _ _ _ _ _ _ _ _
      | exact ih5 _ _ _ _ _ _ _ _
      | exact entaillaw12_awake.mono _
      | exact line_Lines.mono _ _
      | exact LeO.none _
      | refine LeO.ite ?_ ?_
      | refine LeO.bind ?_ (fun _ => ?_)
    · intro y0 y1 y2 y3 y4 y5 y6 y7 y8
      unfold entaillaw12_LineBounds.j4
      repeat' first
      | (with_reducible exact ih0 _ _ _ _ _ _ _ _)
      | (with_reducible exact ih1 _ _ _ _ _ _ _ _)
      | (with_reducible exact ih2 _ _ _ _ _ _ _)
      | (with_reducible exact ih3 _ _ _ _ _ _ _ _ _ _)
      | (with_reducible exact ih4 _ _ _ _ _ _ _ _ _)
      | (with_reducible exact ih5 _ _ _ _ _ _ _ _)
      | (with_reducible exact entaillaw12_awake.mono _)
      | (with_reducible exact line_Lines.mono _ _)
      | (with_reducible exact LeO.refl _)
      | (with_reducible exact LeO.none _)
      | (with_reducible refine LeO.ite ?_ ?_)
      | (with_reducible refine LeO.bind ?_ (fun _ => ?_))
      | exact ih0 _ _ _ _ _ _ _ _
      | exact ih1 _ _ _ _ _ _ _ _
      | exact ih2 _ _ _ _ _ _ _
      | exact ih3 _ _ _ _ _ _ _ _ _ _
      | exact ih4 _ _ _ _ _ _ _ _ _
      | exact ih5 _ _ _ _ _ _ _ _
      | exact entaillaw12_awake.mono _
      | exact line_Lines.mono _ _
      | exact LeO.none _
      | refine LeO.ite ?_ ?_
      | refine LeO.bind ?_ (fun _ => ?_)
    · intro y0 y1 y2 y3 y4 y5 y6 y7
      unfold entaillaw12_LineBounds.j5
      repeat' first
      | (with_reducible exact ih0 _ _ _ _ _ _ _ _)
      | (with_reducible exact ih1 _ _ _ _ _ _ _ _)
      | (with_reducible exact ih2 _ _ _ _ _ _ _)
      | (with_reducible exact ih3 _ _ _ _ _ _ _ _ _ _)
      | (with_reducible exact ih4 _ _ _ _ _ _ _ _ _)
      | (with_reducible exact ih5 _ _ _ _ _ _ _ _)
      | (with_reducible exact entaillaw12_awake.mono _)
      | (with_reducible exact line_Lines.mono _ _)
      | (with_reducible exact LeO.refl _)
      | (with_reducible exact LeO.none _)
      | (with_reducible refine LeO.ite ?_ ?_)
      | (with_reducible refine LeO.bind ?_ (fun _ => ?_))
      | exact ih0 _ _ _ _ _ _ _ _
      | exact ih1 _ _ _ _ _ _ _ _
      | exact ih2 _ _ _ _ _ _ _
      | exact ih3 _ _ _ _ _ _ _ _ _ _
      | exact ih4 _ _ _ _ _ _ _ _ _
      | exact ih5 _ _ _ _ _ _ _ _
      | exact entaillaw12_awake.mono _
      | exact line_Lines.mono _ _
      | exact LeO.none _
      | refine LeO.ite ?_ ?_
      | refine LeO.bind ?_ (fun _ => ?_)
theorem entaillaw12_LineBounds.mono : ∀ a0 a1 a2 a3 k, LeO (entaillaw12_LineBounds.f k a0 a1 a2 a3) (entaillaw12_LineBounds.f (k + 1) a0 a1 a2 a3) := by
  intro a0 a1 a2 a3 k
  obtain ⟨ih0, ih1, ih2, ih3, ih4, ih5⟩ := entaillaw12_LineBounds.mono_l k
  unfold entaillaw12_LineBounds.f
  repeat' first
      | (with_reducible exact ih0 _ _ _ _ _ _ _ _)
      | (with_reducible exact ih1 _ _ _ _ _ _ _ _)
      | (with_reducible exact ih2 _ _ _ _ _ _ _)
      | (with_reducible exact ih3 _ _ _ _ _ _ _ _ _ _)
      | (with_reducible exact ih4 _ _ _ _ _ _ _ _ _)
      | (with_reducible exact ih5 _ _ _ _ _ _ _ _)
      | (with_reducible exact entaillaw12_awake.mono _)
      | (with_reducible exact line_Lines.mono _ _)
      | (with_reducible exact LeO.refl _)
      | (with_reducible exact LeO.none _)
      | (with_reducible refine LeO.ite ?_ ?_)
      | (with_reducible refine LeO.bind ?_ (fun _ => ?_))
      | exact ih0 _ _ _ _ _ _ _ _
      | exact ih1 _ _ _ _ _ _ _ _
      | exact ih2 _ _ _ _ _ _ _
      | exact ih3 _ _ _ _ _ _ _ _ _ _
      | exact ih4 _ _ _ _ _ _ _ _ _
      | exact ih5 _ _ _ _ _ _ _ _
      | exact entaillaw12_awake.mono _
      | exact line_Lines.mono _ _
      | exact LeO.none _
      | refine LeO.ite ?_ ?_
      | refine LeO.bind ?_ (fun _ => ?_)
set_option maxHeartbeats 8000000 in
set_option maxRecDepth 100000 in
theorem entaillaw12_LineBounds.calls (k : Nat) (a0 : Int) (a1 : Int) (a2 : Int) (a3 : Int) (r : Bool) (w : World) (h : entaillaw12_LineBounds.f k a0 a1 a2 a3 = some r) :
    Calls Tryd.prog 6 #[.int .i64 a0, .int .i64 a1, .int .u8 a2, .int .i64 a3] w fun e w' => e = .returned (.bool r) ∧ Below w.heap.size w w' := by
  have HB := Aside0.mk (Below.refl w.heap.size w)
  have H : (if 0 ≤ (wrap64 (199990 + (Go.bits .and .i64 a0 31))) then (if (wrap64 (199990 + (Go.bits .and .i64 a0 31)) : Int).toNat ≤ 281474976710656 then ((some (List.replicate (wrap64 (199990 + (Go.bits .and .i64 a0 31)) : Int).toNat 0 : List Int)).bind fun y125 => (if 0 ≤ (wrap64 (4990 + (Go.bits .and .i64 a1 31))) then (if (wrap64 (4990 + (Go.bits .and .i64 a1 31)) : Int).toNat ≤ 281474976710656 then (entaillaw12_LineBounds.l0 k (wrap64 (199990 + (Go.bits .and .i64 a0 31))) (wrap64 (4990 + (Go.bits .and .i64 a1 31))) a2 a3 y125 (List.replicate (wrap64 (4990 + (Go.bits .and .i64 a1 31)) : Int).toNat 0) (y125.length : Int) 0) else (none)) else (none))) else (none)) else (none)) = some r := h
  clear h
  obtain ⟨ji5, hji5⟩ : ∃ j_ : Int, (wrap64 (199990 + (Go.bits .and .i64 a0 31))) = j_ := ⟨_, rfl⟩
  replace H : (if 0 ≤ (ji5) then (if (ji5 : Int).toNat ≤ 281474976710656 then ((some (List.replicate (ji5 : Int).toNat 0 : List Int)).bind fun y125 => (if 0 ≤ (wrap64 (4990 + (Go.bits .and .i64 a1 31))) then (if (wrap64 (4990 + (Go.bits .and .i64 a1 31)) : Int).toNat ≤ 281474976710656 then (entaillaw12_LineBounds.l0 k ji5 (wrap64 (4990 + (Go.bits .and .i64 a1 31))) a2 a3 y125 (List.replicate (wrap64 (4990 + (Go.bits .and .i64 a1 31)) : Int).toNat 0) (y125.length : Int) 0) else (none)) else (none))) else (none)) else (none)) = some r := by first | (rw [hji5] at H; exact H) | (simp only [hji5] at H ⊢; exact H)
  have hji5w : (IntKind.i64.wrap (199990 + (Go.bits .and .i64 a0 31))) = ji5 := (i64_w _).trans hji5
  by_cases c6 : 0 ≤ (ji5)
  · rw [if_pos c6] at H
    have c6b0 := eq_true c6
    have c6b1 : decide (0 ≤ (ji5)) = true := decide_eq_true c6
    clear c6
    by_cases c7 : (ji5 : Int).toNat ≤ 281474976710656
    · rw [if_pos c7] at H
      have c7b0 := eq_true c7
      have c7b1 : decide ((ji5 : Int).toNat ≤ 281474976710656) = true := decide_eq_true c7
      clear c7
      obtain ⟨y125, hy125⟩ : ∃ y_ : List Int, y_ = (List.replicate (ji5 : Int).toNat 0) := ⟨_, rfl⟩
      replace H : (if 0 ≤ (wrap64 (4990 + (Go.bits .and .i64 a1 31))) then (if (wrap64 (4990 + (Go.bits .and .i64 a1 31)) : Int).toNat ≤ 281474976710656 then (entaillaw12_LineBounds.l0 k ji5 (wrap64 (4990 + (Go.bits .and .i64 a1 31))) a2 a3 y125 (List.replicate (wrap64 (4990 + (Go.bits .and .i64 a1 31)) : Int).toNat 0) (y125.length : Int) 0) else (none)) else (none)) = some r := by first | (rw [hy125]; with_reducible exact H) | (have H2_ := (Option.bind_some _ _).symm.trans H; rw [hy125]; with_reducible exact H2_) | (have H2_ := (Option.bind_some _ _).symm.trans H; with_reducible exact H2_) | with_reducible exact H | (rw [hy125]; exact H) | exact H
      have Ny125 := Aside0.mk hy125
      clear hy125
      obtain ⟨ji8, hji8⟩ : ∃ j_ : Int, (wrap64 (4990 + (Go.bits .and .i64 a1 31))) = j_ := ⟨_, rfl⟩
      replace H : (if 0 ≤ (ji8) then (if (ji8 : Int).toNat ≤ 281474976710656 then (entaillaw12_LineBounds.l0 k ji5 ji8 a2 a3 y125 (List.replicate (ji8 : Int).toNat 0) (y125.length : Int) 0) else (none)) else (none)) = some r := by first | (rw [hji8] at H; exact H) | (simp only [hji8] at H ⊢; exact H)
      have hji8w : (IntKind.i64.wrap (4990 + (Go.bits .and .i64 a1 31))) = ji8 := (i64_w _).trans hji8
      by_cases c9 : 0 ≤ (ji8)
      · rw [if_pos c9] at H
        have c9b0 := eq_true c9
        have c9b1 : decide (0 ≤ (ji8)) = true := decide_eq_true c9
        clear c9
        by_cases c10 : (ji8 : Int).toNat ≤ 281474976710656
        · rw [if_pos c10] at H
          have c10b0 := eq_true c10
          have c10b1 : decide ((ji8 : Int).toNat ≤ 281474976710656) = true := decide_eq_true c10
          clear c10
          obtain ⟨y128, hy128⟩ : ∃ y_ : List Int, y_ = (List.replicate (ji8 : Int).toNat 0) := ⟨_, rfl⟩
          replace H : (entaillaw12_LineBounds.l0 k ji5 ji8 a2 a3 y125 y128 (y125.length : Int) 0) = some r := by first | (rw [hy128]; with_reducible exact H) | (have H2_ := (Option.bind_some _ _).symm.trans H; rw [hy128]; with_reducible exact H2_) | (have H2_ := (Option.bind_some _ _).symm.trans H; with_reducible exact H2_) | with_reducible exact H | (rw [hy128]; exact H) | exact H
          have Ny128 := Aside0.mk hy128
          clear hy128
          have H' := Aside0.mk H
          clear H
          go_enter Tryd.func6, Tryd.ntmps6
          try go_wp2
          have n0_ := Aside0.mk (below_drew1 HB.out)
          clear HB
          have HB := n0_
          clear n0_
          refine start_ (n := 6) (S := fun w' => True) (ds := []) #[false, false, false, false, false, false] (by kernel_rfl) rfl rfl trivial (fun hHeld => ?_)
          generalize w.drew = w11 at HB hHeld ⊢
          refine pure_ (i := 0) (N := some 30) (v := ?_) (a' := ?_) #[true, false, false, false, false, false] rfl rfl (by kernel_rfl) (fun _ _ _ h => h) (Or.inl ⟨by rfl, ?_⟩) ?_ ?_
          rotate_left
          · intro w'
            go_simp
            with_reducible rfl
          rotate_left
          · simp only [Act.put, List.setIfInBounds_toArray, List.set_cons_zero, List.set_cons_succ, i64_w, i32_w]
            rfl
          refine pure_ (i := 2) (N := some 32) (v := ?_) (a' := ?_) #[true, false, true, false, false, false] rfl rfl (by kernel_rfl) (fun _ _ _ h => h) (Or.inl ⟨by rfl, ?_⟩) ?_ ?_
          rotate_left
          · intro w'
            go_simp
            with_reducible rfl
          rotate_left
          · simp only [Act.put, List.setIfInBounds_toArray, List.set_cons_zero, List.set_cons_succ, i64_w, i32_w]
            rfl
          refine join_ (σ := Value × Value) 1 #[true, true, true, true, true, false] (fun s_ => [(31, s_.1), (33, s_.2), (9, s_.1)]) (fun s_ w' => (Kd.R (Kd.int .u8) 5 w' w.heap.size (fun k_ => some k_ ≠ (s_.2 : Value).ownBlock) s_.1 y125) ∧ (Kd.R (Kd.int .u8) 5 w' w.heap.size (fun k_ => some k_ ≠ (s_.1 : Value).ownBlock) s_.2 y128) ∧ (Below w.heap.size w w')) ?_ ?_
          rotate_left
          · intro hCont
            refine two_ (i := 1) (j := 3) (Ni := some 31) (Nj := some 33) #[true, true, true, false, false, false] #[true, false, true, true, false, false] rfl rfl rfl rfl (by kernel_rfl) (by decide) (by decide) (fun K hK => ?_) (fun K hK => ?_)
            · skip
              refine Kd.R_make_step (Kd.int .u8) _ 5 (by rfl) (N := 31) rfl 45 _ _ rfl ji5 rfl rfl Tryd.underlying45 (.int .u8 0) 1 info5 rfl (by decide) (by omega) 0 (ok := fun _ => True) (okp := fun _ => True) rfl (fun _ hk => hk) trivial (of_decide_eq_true (by first | (with_reducible assumption) | assumption)) (Nat.le_trans (Nat.mul_le_mul_right _ (of_decide_eq_true (by first | (with_reducible assumption) | assumption) : ji5.toNat ≤ 281474976710656)) (by omega)) (Below.refl _ _) (Nat.le_refl _) ?_
              intro v126 w12 ho13 hb hg_ hnew_
              clear hg_ hnew_
              (first | rw [← Ny125.out] at ho13 | (simp only [Int.reduceToNat] at ho13; rw [← Ny125.out] at ho13))
              have n0_ := Aside0.mk (Kd.R_lower ho13 (below_size (by repeat (first | (with_reducible first | exact HB.out | apply below_alloc | apply pw_below_drewN | apply below_drew1) | exact HB.out))))
              have n1_ := Aside0.mk (below_step (by repeat (first | (with_reducible first | exact HB.out | apply below_alloc | apply pw_below_drewN | apply below_drew1) | exact HB.out)) hb)
              clear HB
              have HO127 := n0_
              have HB := n1_
              clear n0_ n1_
              clear hb ho13
              refine hK.out _ _ trivial (fun hHeld => ?_)
              clear hK K
              refine norm_ (a' := ?_) ?_ ?_
              rotate_left
              · show Act.put _ (some 31) _ = _
                simp only [Act.put, List.setIfInBounds_toArray, List.set_cons_zero, List.set_cons_succ, i64_w, i32_w]
                rfl
              refine pure_ (i := 4) (N := some 9) (v := ?_) (a' := ?_) #[true, true, true, false, true, false] rfl rfl (by kernel_rfl) (fun _ _ _ h => h) (Or.inl ⟨by rfl, ?_⟩) ?_ ?_
              rotate_left
              · intro w'
                go_simp
                with_reducible rfl
              rotate_left
              · simp only [Act.put, List.setIfInBounds_toArray, List.set_cons_zero, List.set_cons_succ, i64_w, i32_w]
                rfl
              refine one_ (i := 3) (N := some 33) #[true, true, true, true, true, false] rfl rfl (by kernel_rfl) (by decide) (fun K hK => ?_)
              refine Kd.R_make_step (Kd.int .u8) _ 5 (by rfl) (N := 33) rfl 45 _ _ rfl ji8 rfl rfl Tryd.underlying45 (.int .u8 0) 1 info5 rfl (by decide) (by omega) 0 (ok := fun _ => True) (okp := fun _ => True) rfl (fun _ hk => hk) trivial (of_decide_eq_true (by first | (with_reducible assumption) | assumption)) (Nat.le_trans (Nat.mul_le_mul_right _ (of_decide_eq_true (by first | (with_reducible assumption) | assumption) : ji8.toNat ≤ 281474976710656)) (by omega)) (Below.refl _ _) (Nat.le_refl _) ?_
              intro v129 w14 ho15 hb hg_ hnew_
              clear hg_ hnew_
              (first | rw [← Ny128.out] at ho15 | (simp only [Int.reduceToNat] at ho15; rw [← Ny128.out] at ho15))
              have n0_ := Aside0.mk (Kd.R_elder' (by (with_reducible repeat (first | apply Kd.R_alloc | apply Kd.R_drewN | apply Kd.R_drew)); exact HO127.out) (Kd.R_base ho15) hb)
              have n1_ := Aside0.mk (Kd.R_lower (Kd.R_new' ho15 (Kd.R_lt (by (with_reducible repeat (first | apply Kd.R_alloc | apply Kd.R_drewN | apply Kd.R_drew)); exact HO127.out))) (below_size (by repeat (first | (with_reducible first | exact HB.out | apply below_alloc | apply pw_below_drewN | apply below_drew1) | exact HB.out))))
              have n2_ := Aside0.mk (below_step (by repeat (first | (with_reducible first | exact HB.out | apply below_alloc | apply pw_below_drewN | apply below_drew1) | exact HB.out)) hb)
              clear HO127
              clear HB
              have HO127 := n0_
              have HO130 := n1_
              have HB := n2_
              clear n0_ n1_ n2_
              clear hb ho15
              refine hK.out _ _ trivial (fun hHeld => ?_)
              clear hK K
              refine norm_ (a' := ?_) ?_ ?_
              rotate_left
              · show Act.put _ (some 33) _ = _
                simp only [Act.put, List.setIfInBounds_toArray, List.set_cons_zero, List.set_cons_succ, i64_w, i32_w]
                rfl
              exact norm_ (by simp only [putAll, Act.put, List.setIfInBounds_toArray, List.set_cons_zero, List.set_cons_succ]) (hCont (v126, v129) _ ⟨(by (with_reducible repeat (first | apply Kd.R_alloc | apply Kd.R_drewN | apply Kd.R_drew)); exact Kd.R_mono HO127.out (fun _ hk => hk.2)), (by (with_reducible repeat (first | apply Kd.R_alloc | apply Kd.R_drewN | apply Kd.R_drew)); exact Kd.R_mono HO130.out (fun _ hk => hk.2)), (by repeat (first | (with_reducible first | exact HB.out | apply below_alloc | apply pw_below_drewN | apply below_drew1) | exact HB.out))⟩)
            · skip
              refine Kd.R_make_step (Kd.int .u8) _ 5 (by rfl) (N := 33) rfl 45 _ _ rfl ji8 rfl rfl Tryd.underlying45 (.int .u8 0) 1 info5 rfl (by decide) (by omega) 0 (ok := fun _ => True) (okp := fun _ => True) rfl (fun _ hk => hk) trivial (of_decide_eq_true (by first | (with_reducible assumption) | assumption)) (Nat.le_trans (Nat.mul_le_mul_right _ (of_decide_eq_true (by first | (with_reducible assumption) | assumption) : ji8.toNat ≤ 281474976710656)) (by omega)) (Below.refl _ _) (Nat.le_refl _) ?_
              intro v129 w12 ho13 hb hg_ hnew_
              clear hg_ hnew_
              (first | rw [← Ny128.out] at ho13 | (simp only [Int.reduceToNat] at ho13; rw [← Ny128.out] at ho13))
              have n0_ := Aside0.mk (Kd.R_lower ho13 (below_size (by repeat (first | (with_reducible first | exact HB.out | apply below_alloc | apply pw_below_drewN | apply below_drew1) | exact HB.out))))
              have n1_ := Aside0.mk (below_step (by repeat (first | (with_reducible first | exact HB.out | apply below_alloc | apply pw_below_drewN | apply below_drew1) | exact HB.out)) hb)
              clear HB
              have HO130 := n0_
              have HB := n1_
              clear n0_ n1_
              clear hb ho13
              refine hK.out _ _ trivial (fun hHeld => ?_)
              clear hK K
              refine norm_ (a' := ?_) ?_ ?_
              rotate_left
              · show Act.put _ (some 33) _ = _
                simp only [Act.put, List.setIfInBounds_toArray, List.set_cons_zero, List.set_cons_succ, i64_w, i32_w]
                rfl
              refine one_ (i := 1) (N := some 31) #[true, true, true, true, false, false] rfl rfl (by kernel_rfl) (by decide) (fun K hK => ?_)
              refine Kd.R_make_step (Kd.int .u8) _ 5 (by rfl) (N := 31) rfl 45 _ _ rfl ji5 rfl rfl Tryd.underlying45 (.int .u8 0) 1 info5 rfl (by decide) (by omega) 0 (ok := fun _ => True) (okp := fun _ => True) rfl (fun _ hk => hk) trivial (of_decide_eq_true (by first | (with_reducible assumption) | assumption)) (Nat.le_trans (Nat.mul_le_mul_right _ (of_decide_eq_true (by first | (with_reducible assumption) | assumption) : ji5.toNat ≤ 281474976710656)) (by omega)) (Below.refl _ _) (Nat.le_refl _) ?_
              intro v126 w14 ho15 hb hg_ hnew_
              clear hg_ hnew_
              (first | rw [← Ny125.out] at ho15 | (simp only [Int.reduceToNat] at ho15; rw [← Ny125.out] at ho15))
              have n0_ := Aside0.mk (Kd.R_elder' (by (with_reducible repeat (first | apply Kd.R_alloc | apply Kd.R_drewN | apply Kd.R_drew)); exact HO130.out) (Kd.R_base ho15) hb)
              have n1_ := Aside0.mk (Kd.R_lower (Kd.R_new' ho15 (Kd.R_lt (by (with_reducible repeat (first | apply Kd.R_alloc | apply Kd.R_drewN | apply Kd.R_drew)); exact HO130.out))) (below_size (by repeat (first | (with_reducible first | exact HB.out | apply below_alloc | apply pw_below_drewN | apply below_drew1) | exact HB.out))))
              have n2_ := Aside0.mk (below_step (by repeat (first | (with_reducible first | exact HB.out | apply below_alloc | apply pw_below_drewN | apply below_drew1) | exact HB.out)) hb)
              clear HO130
              clear HB
              have HO130 := n0_
              have HO127 := n1_
              have HB := n2_
              clear n0_ n1_ n2_
              clear hb ho15
              refine hK.out _ _ trivial (fun hHeld => ?_)
              clear hK K
              refine norm_ (a' := ?_) ?_ ?_
              rotate_left
              · show Act.put _ (some 31) _ = _
                simp only [Act.put, List.setIfInBounds_toArray, List.set_cons_zero, List.set_cons_succ, i64_w, i32_w]
                rfl
              refine pure_ (i := 4) (N := some 9) (v := ?_) (a' := ?_) #[true, true, true, true, true, false] rfl rfl (by kernel_rfl) (fun _ _ _ h => h) (Or.inl ⟨by rfl, ?_⟩) ?_ ?_
              rotate_left
              · intro w'
                go_simp
                with_reducible rfl
              rotate_left
              · simp only [Act.put, List.setIfInBounds_toArray, List.set_cons_zero, List.set_cons_succ, i64_w, i32_w]
                rfl
              exact norm_ (by simp only [putAll, Act.put, List.setIfInBounds_toArray, List.set_cons_zero, List.set_cons_succ]) (hCont (v126, v129) _ ⟨(by (with_reducible repeat (first | apply Kd.R_alloc | apply Kd.R_drewN | apply Kd.R_drew)); exact Kd.R_mono HO127.out (fun _ hk => hk.2)), (by (with_reducible repeat (first | apply Kd.R_alloc | apply Kd.R_drewN | apply Kd.R_drew)); exact Kd.R_mono HO130.out (fun _ hk => hk.2)), (by repeat (first | (with_reducible first | exact HB.out | apply below_alloc | apply pw_below_drewN | apply below_drew1) | exact HB.out))⟩)
          rintro ⟨v126, v129⟩ w16 ⟨h0_, h1_, h2_⟩
          have n0_ : Aside0 (Kd.R (Kd.int .u8) 5 w16 w.heap.size (fun k_ => some k_ ≠ (v129 : Value).ownBlock) v126 y125) := ⟨h0_⟩
          have n1_ : Aside0 (Kd.R (Kd.int .u8) 5 w16 w.heap.size (fun k_ => some k_ ≠ (v126 : Value).ownBlock) v129 y128) := ⟨h1_⟩
          have n2_ : Aside0 (Below w.heap.size w w16) := ⟨h2_⟩
          clear HB
          clear h0_ h1_ h2_
          have HO127 := n0_
          have HO130 := n1_
          have HB := n2_
          clear n0_ n1_ n2_
          have hHeld := trivial
          refine norm_ (a' := ?_) ?_ ?_
          rotate_left
          · simp only [putAll, Act.put, List.setIfInBounds_toArray, List.set_cons_zero, List.set_cons_succ]
            rfl
          refine pure_ (i := 5) (N := some 10) (v := ?_) (a' := ?_) #[true, true, true, true, true, true] rfl rfl (by kernel_rfl) (fun _ _ _ h => h) (Or.inl ⟨by rfl, ?_⟩) ?_ ?_
          rotate_left
          · intro w'
            go_simp
            with_reducible rfl
          rotate_left
          · simp only [Act.put, List.setIfInBounds_toArray, List.set_cons_zero, List.set_cons_succ, i64_w, i32_w]
            rfl
          refine done_ (by kernel_rfl) ?_
          obtain ⟨Ao17, co17, eo17⟩ := Kd.R_slice HO127.out
          subst eo17
          try go_wp2
          go_loopg [36] k (fun kq v36 w' => ∃ (x9_1 : List Int) (x36_1 : Int), v36 = .int .i64 x36_1 ∧ Aside0 (entaillaw12_LineBounds.l0 kq ji5 ji8 a2 a3 x9_1 y128 (y125.length : Int) x36_1 = some r) ∧ Aside0 (kq ≤ k) ∧ Aside0 (Kd.R (Kd.int .u8) 5 w' w.heap.size (fun k_ => some k_ ≠ (v129 : Value).ownBlock) (.slice Ao17 y125.length co17) x9_1) ∧ Aside0 (Kd.R (Kd.int .u8) 5 w' w.heap.size (fun k_ => some k_ ≠ ((.slice Ao17 y125.length co17) : Value).ownBlock) v129 y128) ∧ Aside0 (Below w.heap.size w w'))
          case atStart => exact ⟨(y125), (0), (by first | rfl | (simp; done) | (simp [*]; done)), H', ⟨Nat.le_refl _⟩, ⟨by (with_reducible repeat (first | apply Kd.R_alloc | apply Kd.R_drewN | apply Kd.R_drew)); exact HO127.out⟩, ⟨by (with_reducible repeat (first | apply Kd.R_alloc | apply Kd.R_drewN | apply Kd.R_drew)); exact HO130.out⟩, ⟨by repeat (first | (with_reducible first | exact HB.out | apply below_alloc | apply pw_below_drewN | apply below_drew1) | exact HB.out)⟩⟩
          case round =>
            clear H'
            try clear c1
            try clear p2
            try clear c6
            try clear c6b0
            try clear c6b1
            try clear p6
            try clear c7
            try clear c7b0
            try clear c7b1
            try clear c9
            try clear c9b0
            try clear c9b1
            try clear c10
            try clear c10b0
            try clear c10b1
            obtain ⟨x9_1, x36_1, rfl, HA, HK1, HO_9, HO_10, HB⟩ := hrel
            have hl9_1 := (Kd.R_reads' HO_9.out).1
            rw [hl9_1] at HO_9
            (try simp only [hl9_1])
            (try simp only [hl9_1] at HO_10)
            cases gk with
            | zero => exact absurd HA.out (by simp [entaillaw12_LineBounds.l0])
            | succ k1 =>
              have H := HA.out
              clear HA
              simp only [entaillaw12_LineBounds.l0] at H
              by_cases c18 : x36_1 < (y125.length : Int)
              · rw [if_pos c18] at H
                have c18b0 : decide (x36_1 < (y125.length : Int)) = true := decide_eq_true c18
                try simp only [hl9_1] at c18b0
                clear c18
                by_cases c19 : 0 ≤ x36_1
                · rw [if_pos c19] at H
                  have c19b0 : decide (0 ≤ x36_1) = true := decide_eq_true c19
                  clear c19
                  by_cases c20 : x36_1 < (x9_1.length : Int)
                  · rw [if_pos c20] at H
                    have c20b0 : decide (x36_1 < (x9_1.length : Int)) = true := decide_eq_true c20
                    clear c20
                    obtain ⟨y131, hy131⟩ : ∃ y_ : List Int, y_ = (x9_1.set (x36_1 : Int).toNat 97) := ⟨_, rfl⟩
                    replace H : (entaillaw12_LineBounds.l0 k1 ji5 ji8 a2 a3 y131 y128 (y125.length : Int) (wrap64 (x36_1 + 1))) = some r := by first | (rw [hy131]; with_reducible exact H) | (have H2_ := (Option.bind_some _ _).symm.trans H; rw [hy131]; with_reducible exact H2_) | (have H2_ := (Option.bind_some _ _).symm.trans H; with_reducible exact H2_) | with_reducible exact H | (rw [hy131]; exact H) | exact H
                    have Ny131 := Aside0.mk hy131
                    clear hy131
                    have H' := Aside0.mk H
                    clear H
                    have p21 : 0 ≤ (x36_1 : Int) := of_decide_eq_true (by first | (with_reducible assumption) | assumption)
                    have q21 : (x36_1 : Int) < ((x9_1.length : Int) : Int) := of_decide_eq_true (by first | (with_reducible assumption) | assumption)
                    obtain ⟨go21, co21, eo21, gb21, gl21, cl21, HG21⟩ := Kd.R_form HO_9.out (by omega)
                    (first | cases eo21 | (injection eo21 with ea_ en_ ec_; (first | subst ea_ | (injection ea_ with ea_; subst ea_)); subst ec_; clear en_))
                    have GB21 := Aside0.mk gb21
                    have GG21 := Aside0.mk HG21
                    clear gb21 gl21 HG21
                    obtain ⟨hx21_0, hf21_0⟩ := Kd.R_celln 0 HO_9.out (x36_1 : Int) p21 q21
                    replace p21 := eq_true p21
                    replace q21 := eq_true q21
                    have HP22 := Kd.R_putg HO_9.out (x36_1 : Int) 97
                    go_wp2_with (first | ((with_reducible refine gate_store (t := 5) (p := 41) rfl ?_); refine store_event (t := 5) (p := 41) (v := ?vo_w23) (w1 := (wr.setCell ⟨go21, (x36_1 : Int).toNat, none⟩ (.int .u8 97))) ?hg ?ho ?hn ?hr ?_; (case ho => rfl); (case hg => rfl); (case hn => rfl); (case hr => first | (go_simp; done) | (go_simp; rfl)); intro w23 hw; have hg : wr.grownBy w23 (some go21) := (by rw [hw]; exact HP22.2); have hp_ : Kd.R (Kd.int .u8) 5 w23 w.heap.size (fun k_ => some k_ ≠ (v129 : Value).ownBlock) (.slice (some ⟨go21, 0, none⟩) x9_1.length co17) y131 := (by rw [hw, Ny131.out]; exact HP22.1); clear HP22; have n0_ := Aside0.mk (hp_); have n1_ := Aside0.mk (Kd.R_after (v := (.slice (some ⟨go21, 0, none⟩) x9_1.length co17)) (v1 := (.slice (some ⟨go21, 0, none⟩) x9_1.length co17)) (ok := (fun _ => True)) (by (with_reducible repeat (first | apply Kd.R_alloc | apply Kd.R_drewN | apply Kd.R_drew)); exact Kd.R_mono HO_10.out (fun _ hk => ⟨trivial, hk⟩)) hg (.inl rfl)); have n2_ := Aside0.mk ((by rw [hw]; exact below_set (HB.out) GB21.out : Below w.heap.size w w23)); clear HO_9; clear HO_10; clear HB; have HO_9 := n0_; have HO_10 := n1_; have HB := n2_; clear n0_ n1_ n2_; clear hg hw hp_))
                    (try simp only [← hl9_1])
                    go_roundg k1
                    case measure => have := HK1.out; omega
                    case rel => exact ⟨(y131), (wrap64 (x36_1 + 1)), (by first | rfl | (simp; done) | (simp [*]; done)), H', ⟨by have := HK1.out; omega⟩, ⟨by (try simp only [hl9_1]); (with_reducible repeat (first | apply Kd.R_alloc | apply Kd.R_drewN | apply Kd.R_drew)); exact HO_9.out⟩, ⟨by (try simp only [hl9_1]); (with_reducible repeat (first | apply Kd.R_alloc | apply Kd.R_drewN | apply Kd.R_drew)); exact Kd.R_mono HO_10.out (fun _ hk => hk.2)⟩, ⟨by repeat (first | (with_reducible first | exact HB.out | apply below_alloc | apply pw_below_drewN | apply below_drew1) | exact HB.out)⟩⟩
                  · rw [if_neg c20] at H
                    exact absurd H (by simp)
                · rw [if_neg c19] at H
                  exact absurd H (by simp)
              · rw [if_neg c18] at H
                have c18b0 : decide (x36_1 < (y125.length : Int)) = false := decide_eq_false c18
                try simp only [hl9_1] at c18b0
                clear c18
                have H' := Aside0.mk H
                clear H
                obtain ⟨Ao24, co24, eo24⟩ := Kd.R_slice HO_10.out
                subst eo24
                go_wp2
                go_loopg [45] k1 (fun kq v45 w' => ∃ (x10_2 : List Int) (x45_2 : Int), v45 = .int .i64 x45_2 ∧ Aside0 (entaillaw12_LineBounds.l1 kq ji5 ji8 a2 a3 x9_1 x10_2 (y128.length : Int) x45_2 = some r) ∧ Aside0 (kq ≤ k1) ∧ Aside0 (Kd.R (Kd.int .u8) 5 w' w.heap.size (fun k_ => some k_ ≠ ((.slice Ao24 y128.length co24) : Value).ownBlock) (.slice Ao17 x9_1.length co17) x9_1) ∧ Aside0 (Kd.R (Kd.int .u8) 5 w' w.heap.size (fun k_ => some k_ ≠ ((.slice Ao17 x9_1.length co17) : Value).ownBlock) (.slice Ao24 y128.length co24) x10_2) ∧ Aside0 (Below w.heap.size w w'))
                case atStart => exact ⟨(y128), (0), (by first | rfl | (simp; done) | (simp [*]; done)), H', ⟨Nat.le_refl _⟩, ⟨by (try simp only [hl9_1]); (with_reducible repeat (first | apply Kd.R_alloc | apply Kd.R_drewN | apply Kd.R_drew)); exact HO_9.out⟩, ⟨by (try simp only [hl9_1]); (with_reducible repeat (first | apply Kd.R_alloc | apply Kd.R_drewN | apply Kd.R_drew)); exact HO_10.out⟩, ⟨by repeat (first | (with_reducible first | exact HB.out | apply below_alloc | apply pw_below_drewN | apply below_drew1) | exact HB.out)⟩⟩
                case round =>
                  clear H'
                  try clear c1
                  try clear c2
                  try clear p2
                  try clear q2
                  try clear hx2
                  try clear c6
                  try clear c6b0
                  try clear c6b1
                  try clear p6
                  try clear c7
                  try clear c7b0
                  try clear c7b1
                  try clear c9
                  try clear c9b0
                  try clear c9b1
                  try clear c10
                  try clear c10b0
                  try clear c10b1
                  try clear c18
                  try clear c18b0
                  try clear c19
                  try clear c19b0
                  try clear c20
                  try clear c20b0
                  try clear p21
                  try clear q21
                  try clear hx21
                  try clear hf21
                  try clear hx21_0
                  try clear p2
                  try clear p21
                  try clear p6
                  try clear q21
                  obtain ⟨x10_2, x45_2, rfl, HA, HK2, HO_9, HO_10, HB⟩ := hrel
                  have hl10_2 := (Kd.R_reads' HO_10.out).1
                  rw [hl10_2] at HO_10
                  (try simp only [hl10_2])
                  (try simp only [hl10_2] at HO_9)
                  cases gk with
                  | zero => exact absurd HA.out (by simp [entaillaw12_LineBounds.l1])
                  | succ k2 =>
                    have H := HA.out
                    clear HA
                    simp only [entaillaw12_LineBounds.l1] at H
                    by_cases c25 : x45_2 < (y128.length : Int)
                    · rw [if_pos c25] at H
                      have c25b0 : decide (x45_2 < (y128.length : Int)) = true := decide_eq_true c25
                      try simp only [hl10_2] at c25b0
                      clear c25
                      by_cases c26 : 0 ≤ x45_2
                      · rw [if_pos c26] at H
                        have c26b0 : decide (0 ≤ x45_2) = true := decide_eq_true c26
                        clear c26
                        by_cases c27 : x45_2 < (x10_2.length : Int)
                        · rw [if_pos c27] at H
                          have c27b0 : decide (x45_2 < (x10_2.length : Int)) = true := decide_eq_true c27
                          clear c27
                          obtain ⟨y132, hy132⟩ : ∃ y_ : List Int, y_ = (x10_2.set (x45_2 : Int).toNat 10) := ⟨_, rfl⟩
                          replace H : (entaillaw12_LineBounds.l1 k2 ji5 ji8 a2 a3 x9_1 y132 (y128.length : Int) (wrap64 (x45_2 + 1))) = some r := by first | (rw [hy132]; with_reducible exact H) | (have H2_ := (Option.bind_some _ _).symm.trans H; rw [hy132]; with_reducible exact H2_) | (have H2_ := (Option.bind_some _ _).symm.trans H; with_reducible exact H2_) | with_reducible exact H | (rw [hy132]; exact H) | exact H
                          have Ny132 := Aside0.mk hy132
                          clear hy132
                          have H' := Aside0.mk H
                          clear H
                          have p28 : 0 ≤ (x45_2 : Int) := of_decide_eq_true (by first | (with_reducible assumption) | assumption)
                          have q28 : (x45_2 : Int) < ((x10_2.length : Int) : Int) := of_decide_eq_true (by first | (with_reducible assumption) | assumption)
                          obtain ⟨go28, co28, eo28, gb28, gl28, cl28, HG28⟩ := Kd.R_form HO_10.out (by omega)
                          (first | cases eo28 | (injection eo28 with ea_ en_ ec_; (first | subst ea_ | (injection ea_ with ea_; subst ea_)); subst ec_; clear en_))
                          have GB28 := Aside0.mk gb28
                          have GG28 := Aside0.mk HG28
                          clear gb28 gl28 HG28
                          obtain ⟨hx28_0, hf28_0⟩ := Kd.R_celln 0 HO_10.out (x45_2 : Int) p28 q28
                          replace p28 := eq_true p28
                          replace q28 := eq_true q28
                          have HP29 := Kd.R_putg HO_10.out (x45_2 : Int) 10
                          go_wp2_with (first | ((with_reducible refine gate_store (t := 5) (p := 50) rfl ?_); refine store_event (t := 5) (p := 50) (v := ?vo_w30) (w1 := (wr.setCell ⟨go28, (x45_2 : Int).toNat, none⟩ (.int .u8 10))) ?hg ?ho ?hn ?hr ?_; (case ho => rfl); (case hg => rfl); (case hn => rfl); (case hr => first | (go_simp; done) | (go_simp; rfl)); intro w30 hw; have hg : wr.grownBy w30 (some go28) := (by rw [hw]; exact HP29.2); have hp_ : Kd.R (Kd.int .u8) 5 w30 w.heap.size (fun k_ => some k_ ≠ (.slice Ao17 x9_1.length co17 : Value).ownBlock) (.slice (some ⟨go28, 0, none⟩) x10_2.length co24) y132 := (by rw [hw, Ny132.out]; exact HP29.1); clear HP29; have n0_ := Aside0.mk (Kd.R_after (v := (.slice (some ⟨go28, 0, none⟩) x10_2.length co24)) (v1 := (.slice (some ⟨go28, 0, none⟩) x10_2.length co24)) (ok := (fun _ => True)) (by (with_reducible repeat (first | apply Kd.R_alloc | apply Kd.R_drewN | apply Kd.R_drew)); exact Kd.R_mono HO_9.out (fun _ hk => ⟨trivial, hk⟩)) hg (.inl rfl)); have n1_ := Aside0.mk (hp_); have n2_ := Aside0.mk ((by rw [hw]; exact below_set (HB.out) GB28.out : Below w.heap.size w w30)); clear HO_9; clear HO_10; clear HB; have HO_9 := n0_; have HO_10 := n1_; have HB := n2_; clear n0_ n1_ n2_; clear hg hw hp_))
                          (try simp only [← hl10_2])
                          go_roundg k2
                          case measure => have := HK1.out; have := HK2.out; omega
                          case rel => exact ⟨(y132), (wrap64 (x45_2 + 1)), (by first | rfl | (simp; done) | (simp [*]; done)), H', ⟨by have := HK1.out; have := HK2.out; omega⟩, ⟨by (try simp only [hl9_1]); (try simp only [hl10_2]); (with_reducible repeat (first | apply Kd.R_alloc | apply Kd.R_drewN | apply Kd.R_drew)); exact Kd.R_mono HO_9.out (fun _ hk => hk.2)⟩, ⟨by (try simp only [hl9_1]); (try simp only [hl10_2]); (with_reducible repeat (first | apply Kd.R_alloc | apply Kd.R_drewN | apply Kd.R_drew)); exact HO_10.out⟩, ⟨by repeat (first | (with_reducible first | exact HB.out | apply below_alloc | apply pw_below_drewN | apply below_drew1) | exact HB.out)⟩⟩
                        · rw [if_neg c27] at H
                          exact absurd H (by simp)
                      · rw [if_neg c26] at H
                        exact absurd H (by simp)
                    · rw [if_neg c25] at H
                      have c25b0 : decide (x45_2 < (y128.length : Int)) = false := decide_eq_false c25
                      try simp only [hl10_2] at c25b0
                      clear c25
                      obtain ⟨y133, hy133⟩ : ∃ y_ : List Int, y_ = (([117, 115, 101, 114, 32, 97, 10, 114, 111, 108, 101, 32, 98, 10] : List Int)) := ⟨_, rfl⟩
                      replace H : (if (y133.length : Int) = 0 then (none) else (if 0 ≤ (Int.tmod (Go.bits .and .i64 a3 255) (y133.length : Int)) then (if (Int.tmod (Go.bits .and .i64 a3 255) (y133.length : Int)) < (y133.length : Int) then (if (rd y133 (Int.tmod (Go.bits .and .i64 a3 255) (y133.length : Int))) = 10 then (entaillaw12_LineBounds.j2 k2 ji5 ji8 a2 (wrap64 ((Int.tmod (Go.bits .and .i64 a3 255) (y133.length : Int)) - 1)) x9_1 x10_2 y133) else (entaillaw12_LineBounds.j2 k2 ji5 ji8 a2 (Int.tmod (Go.bits .and .i64 a3 255) (y133.length : Int)) x9_1 x10_2 y133)) else (none)) else (none))) = some r := by first | (rw [hy133]; with_reducible exact H) | (have H2_ := (Option.bind_some _ _).symm.trans H; rw [hy133]; with_reducible exact H2_) | (have H2_ := (Option.bind_some _ _).symm.trans H; with_reducible exact H2_) | with_reducible exact H | (rw [hy133]; exact H) | exact H
                      have Ny133 := Aside0.mk hy133
                      clear hy133
                      by_cases c31 : (y133.length : Int) = 0
                      · rw [if_pos c31] at H
                        exact absurd H (by simp)
                      · rw [if_neg c31] at H
                        have c31b0 : ((y133.length : Int) == 0) = false := beq_eq_false_iff_ne.mpr c31
                        have c31b1 : ((y133.length : Int) != 0) = true := bne_iff_ne.mpr c31
                        have c31b2 : ¬ (y133 = []) := fun h_ => c31 (by rw [h_]; rfl)
                        obtain ⟨ji32, hji32⟩ : ∃ j_ : Int, (Int.tmod (Go.bits .and .i64 a3 255) (y133.length : Int)) = j_ := ⟨_, rfl⟩
                        replace H : (if 0 ≤ (ji32) then (if (ji32) < (y133.length : Int) then (if (rd y133 (ji32)) = 10 then (entaillaw12_LineBounds.j2 k2 ji5 ji8 a2 (wrap64 ((ji32) - 1)) x9_1 x10_2 y133) else (entaillaw12_LineBounds.j2 k2 ji5 ji8 a2 ji32 x9_1 x10_2 y133)) else (none)) else (none)) = some r := by first | (rw [hji32] at H; exact H) | (simp only [hji32] at H ⊢; exact H)
                        by_cases c33 : 0 ≤ (ji32)
                        · rw [if_pos c33] at H
                          have c33b0 : decide (0 ≤ (ji32)) = true := decide_eq_true c33
                          clear c33
                          by_cases c34 : (ji32) < (y133.length : Int)
                          · rw [if_pos c34] at H
                            have c34b0 : decide ((ji32) < (y133.length : Int)) = true := decide_eq_true c34
                            clear c34
                            have HC35 := Aside0.mk H
                            clear H
                            go_upto_if 63 with (first | ((with_reducible refine gate_dst (N := 52) rfl ?_); refine Kd.R_lit (Kd.int .u8) _ 5 ?hg (N := 52) ?hd (xs := ([117, 115, 101, 114, 32, 97, 10, 114, 111, 108, 101, 32, 98, 10] : List Int)) (inner := [.int .u8 117, .int .u8 115, .int .u8 101, .int .u8 114, .int .u8 32, .int .u8 97, .int .u8 10, .int .u8 114, .int .u8 111, .int .u8 108, .int .u8 101, .int .u8 32, .int .u8 98, .int .u8 10]) (ok := fun _ => True) (okp := fun _ => True) ?hr ?hp (fun _ hk => hk) trivial (Below.refl _ _) (Nat.le_refl _) (by simp) ?_; (case hd => rfl); (case hg => rfl); (case hr => first | (go_simp; done) | (go_simp; rfl)); (case hp => exact (Reps.one (show Kd.M (Kd.int .u8) _ _ _ 117 [.int .u8 117] from rfl) (Reps.one (show Kd.M (Kd.int .u8) _ _ _ 115 [.int .u8 115] from rfl) (Reps.one (show Kd.M (Kd.int .u8) _ _ _ 101 [.int .u8 101] from rfl) (Reps.one (show Kd.M (Kd.int .u8) _ _ _ 114 [.int .u8 114] from rfl) (Reps.one (show Kd.M (Kd.int .u8) _ _ _ 32 [.int .u8 32] from rfl) (Reps.one (show Kd.M (Kd.int .u8) _ _ _ 97 [.int .u8 97] from rfl) (Reps.one (show Kd.M (Kd.int .u8) _ _ _ 10 [.int .u8 10] from rfl) (Reps.one (show Kd.M (Kd.int .u8) _ _ _ 114 [.int .u8 114] from rfl) (Reps.one (show Kd.M (Kd.int .u8) _ _ _ 111 [.int .u8 111] from rfl) (Reps.one (show Kd.M (Kd.int .u8) _ _ _ 108 [.int .u8 108] from rfl) (Reps.one (show Kd.M (Kd.int .u8) _ _ _ 101 [.int .u8 101] from rfl) (Reps.one (show Kd.M (Kd.int .u8) _ _ _ 32 [.int .u8 32] from rfl) (Reps.one (show Kd.M (Kd.int .u8) _ _ _ 98 [.int .u8 98] from rfl) (Reps.one (show Kd.M (Kd.int .u8) _ _ _ 10 [.int .u8 10] from rfl) (Reps.none _ _)))))))))))))))); intro v134 w36 ho37 hb hg_ hnew_; clear hg_ hnew_; (first | rw [← Ny133.out] at ho37 | (simp only [Int.reduceToNat] at ho37; rw [← Ny133.out] at ho37)); have n0_ := Aside0.mk (Kd.R_elder' (by (with_reducible repeat (first | apply Kd.R_alloc | apply Kd.R_drewN | apply Kd.R_drew)); exact HO_9.out) (Kd.R_base ho37) hb); have n1_ := Aside0.mk (Kd.R_elder' (by (with_reducible repeat (first | apply Kd.R_alloc | apply Kd.R_drewN | apply Kd.R_drew)); exact HO_10.out) (Kd.R_base ho37) hb); have n2_ := Aside0.mk (Kd.R_lower (Kd.R_new' (Kd.R_new' ho37 (Kd.R_lt (by (with_reducible repeat (first | apply Kd.R_alloc | apply Kd.R_drewN | apply Kd.R_drew)); exact HO_9.out))) (Kd.R_lt (by (with_reducible repeat (first | apply Kd.R_alloc | apply Kd.R_drewN | apply Kd.R_drew)); exact HO_10.out))) (below_size (by repeat (first | (with_reducible first | exact HB.out | apply below_alloc | apply pw_below_drewN | apply below_drew1) | exact HB.out)))); have n3_ := Aside0.mk (below_step (by repeat (first | (with_reducible first | exact HB.out | apply below_alloc | apply pw_below_drewN | apply below_drew1) | exact HB.out)) hb); clear HO_9; clear HO_10; clear HB; have HO_9 := n0_; have HO_10 := n1_; have HO135 := n2_; have HB := n3_; clear n0_ n1_ n2_ n3_; clear hb ho37; obtain ⟨Ao38, co38, eo38⟩ := Kd.R_slice HO135.out; subst eo38; obtain ⟨wm_, hcvm_, hm_, hg_, hbm_⟩ := YtamgobcahgcejaaDoorMark.mark Tryd.underlying45 Tryd.underlying5 HO135.out (by rw [Ny133.out]; decide); have n0_ := Aside0.mk (Kd.R_grown HO_9.out hg_ (fun k_ hk_ => hk_.2)); have n1_ := Aside0.mk (Kd.R_grown HO_10.out hg_ (fun k_ hk_ => hk_.2)); have n2_ := Aside0.mk hm_; have n3_ := Aside0.mk (hbm_ HB.out (below_size HB.out)); clear HO_9; clear HO_10; clear HO135; clear HB; have HO_9 := n0_; have HO_10 := n1_; have HO135 := n2_; have HB := n3_; clear n0_ n1_ n2_ n3_ hm_ hg_ hbm_; have p136 : 0 ≤ ((ji32) : Int) := of_decide_eq_true (by first | (with_reducible assumption) | assumption); have q136 : (ji32) < (y133.length : Int) := of_decide_eq_true (by first | (with_reducible assumption) | assumption); obtain ⟨ad136, e136, hx136_0⟩ := Kd.at_int (YtamgobcahgcejaaDoorMark.reads HO135.out).2.2 (ji32) p136 q136; cases e136; replace p136 := eq_true p136; replace q136 := eq_true q136))
                            (try simp only [Act.put, List.setIfInBounds_toArray, List.set_cons_zero, List.set_cons_succ])
                            go_cut [3] (fun v3 wc => ∃ (kq : Nat) (x3_34 : Int), v3 = .int .i64 x3_34 ∧ Aside0 (entaillaw12_LineBounds.j2 kq ji5 ji8 a2 x3_34 x9_1 x10_2 y133 = some r) ∧ Aside0 (kq ≤ k2) ∧ Aside0 (Kd.R (Kd.int .u8) 5 wc w.heap.size (fun k_ => some k_ ≠ ((.slice Ao24 x10_2.length co24) : Value).ownBlock ∧ some k_ ≠ ((.slice (some ad136) y133.length co38) : Value).ownBlock) (.slice Ao17 x9_1.length co17) x9_1) ∧ Aside0 (Kd.R (Kd.int .u8) 5 wc w.heap.size (fun k_ => some k_ ≠ ((.slice Ao17 x9_1.length co17) : Value).ownBlock ∧ some k_ ≠ ((.slice (some ad136) y133.length co38) : Value).ownBlock) (.slice Ao24 x10_2.length co24) x10_2) ∧ Aside0 (YtamgobcahgcejaaDoorMark.MR 5 wc w.heap.size (fun k_ => some k_ ≠ ((.slice Ao17 x9_1.length co17) : Value).ownBlock ∧ some k_ ≠ ((.slice Ao24 x10_2.length co24) : Value).ownBlock) (.slice (some ad136) y133.length co38) y133) ∧ Aside0 (Below w.heap.size w wc))
                            case first =>
                              have H := HC35.out
                              clear HC35
                              by_cases c39 : (rd y133 (ji32)) = 10
                              · rw [if_pos c39] at H
                                have c39b0 : ((rd y133 (ji32)) == 10) = true := beq_iff_eq.mpr c39
                                have c39b1 : ((rd y133 (ji32)) != 10) = false := bne_eq_false_iff_eq.mpr c39
                                clear c39
                                (first | rw [c39b0] | (simp only [i64_w, i32_w]; rw [c39b0]) | skip)
                                have H' := Aside0.mk H
                                clear H
                                go_wp2
                                go_meet
                                case rel => exact ⟨_, (wrap64 ((ji32) - 1)), (by first | rfl | (simp; done) | (simp only [← hji32] <;> (first | rfl | simp)) | (simp [*]; done)), H', ⟨by have := HK1.out; have := HK2.out; first | omega | exact Nat.le_refl _⟩, ⟨by (try simp only [hl9_1]); (try simp only [hl10_2]); (with_reducible repeat (first | apply Kd.R_alloc | apply Kd.R_drewN | apply Kd.R_drew)); exact HO_9.out⟩, ⟨by (try simp only [hl9_1]); (try simp only [hl10_2]); (with_reducible repeat (first | apply Kd.R_alloc | apply Kd.R_drewN | apply Kd.R_drew)); exact HO_10.out⟩, ⟨by (try simp only [hl9_1]); (try simp only [hl10_2]); (with_reducible repeat (first | apply Kd.R_alloc | apply Kd.R_drewN | apply Kd.R_drew)); (with_reducible repeat (first | apply YtamgobcahgcejaaDoorMark.alloc | apply YtamgobcahgcejaaDoorMark.drewN | apply YtamgobcahgcejaaDoorMark.drew)); exact YtamgobcahgcejaaDoorMark.mono HO135.out (fun _ hk => ⟨hk.1.2, hk.2⟩)⟩, ⟨by repeat (first | (with_reducible first | exact HB.out | apply below_alloc | apply pw_below_drewN | apply below_drew1) | exact HB.out)⟩⟩
                              · rw [if_neg c39] at H
                                have c39b0 : ((rd y133 (ji32)) == 10) = false := beq_eq_false_iff_ne.mpr c39
                                have c39b1 : ((rd y133 (ji32)) != 10) = true := bne_iff_ne.mpr c39
                                (first | rw [c39b0] | (simp only [i64_w, i32_w]; rw [c39b0]) | skip)
                                have H' := Aside0.mk H
                                clear H
                                go_wp2
                                go_meet
                                case rel => exact ⟨_, (ji32), (by first | rfl | (simp; done) | (simp only [← hji32] <;> (first | rfl | simp)) | (simp [*]; done)), H', ⟨by have := HK1.out; have := HK2.out; first | omega | exact Nat.le_refl _⟩, ⟨by (try simp only [hl9_1]); (try simp only [hl10_2]); (with_reducible repeat (first | apply Kd.R_alloc | apply Kd.R_drewN | apply Kd.R_drew)); exact HO_9.out⟩, ⟨by (try simp only [hl9_1]); (try simp only [hl10_2]); (with_reducible repeat (first | apply Kd.R_alloc | apply Kd.R_drewN | apply Kd.R_drew)); exact HO_10.out⟩, ⟨by (try simp only [hl9_1]); (try simp only [hl10_2]); (with_reducible repeat (first | apply Kd.R_alloc | apply Kd.R_drewN | apply Kd.R_drew)); (with_reducible repeat (first | apply YtamgobcahgcejaaDoorMark.alloc | apply YtamgobcahgcejaaDoorMark.drewN | apply YtamgobcahgcejaaDoorMark.drew)); exact YtamgobcahgcejaaDoorMark.mono HO135.out (fun _ hk => ⟨hk.1.2, hk.2⟩)⟩, ⟨by repeat (first | (with_reducible first | exact HB.out | apply below_alloc | apply pw_below_drewN | apply below_drew1) | exact HB.out)⟩⟩
                            case rest =>
                              clear HC35
                              try clear c1
                              try clear p1
                              try clear q1
                              try clear hx1
                              try clear c2
                              try clear p2
                              try clear q2
                              try clear hx2
                              try clear c3
                              try clear c6
                              try clear c6b0
                              try clear c6b1
                              try clear p6
                              try clear c7
                              try clear c7b0
                              try clear c7b1
                              try clear c9
                              try clear c9b0
                              try clear c9b1
                              try clear c10
                              try clear c10b0
                              try clear c10b1
                              try clear p13
                              try clear q13
                              try clear hx13
                              try clear c18
                              try clear c18b0
                              try clear c19
                              try clear c19b0
                              try clear c20
                              try clear c20b0
                              try clear p21
                              try clear q21
                              try clear hx21
                              try clear hf21
                              try clear c25
                              try clear c25b0
                              try clear c26
                              try clear c26b0
                              try clear c27
                              try clear c27b0
                              try clear p28
                              try clear q28
                              try clear hx28
                              try clear hf28
                              try clear c31
                              try clear c31b0
                              try clear c31b1
                              try clear c31b2
                              try clear c33
                              try clear c33b0
                              try clear c34
                              try clear c34b0
                              try clear c39
                              try clear c39b0
                              try clear c39b1
                              try clear hx136_0
                              try clear hx21_0
                              try clear hx28_0
                              try clear p136
                              try clear p2
                              try clear p21
                              try clear p28
                              try clear p6
                              try clear q136
                              try clear q2
                              try clear q21
                              try clear q28
                              obtain ⟨kq, x3_34, rfl, HA, HJ34, HO_9, HO_10, HO_13, HB⟩ := hcut
                              cases kq with
                              | zero => exact absurd HA.out (by simp [entaillaw12_LineBounds.j2])
                              | succ kj34 =>
                                have H := HA.out
                                clear HA
                                simp only [entaillaw12_LineBounds.j2] at H
                                by_cases c40 : 0 ≤ x3_34
                                · rw [if_pos c40] at H
                                  have c40b0 : decide (0 ≤ x3_34) = true := decide_eq_true c40
                                  clear c40
                                  by_cases c41 : x3_34 < (y133.length : Int)
                                  · rw [if_pos c41] at H
                                    have c41b0 : decide (x3_34 < (y133.length : Int)) = true := decide_eq_true c41
                                    try simp only [hl10_2] at c41b0
                                    clear c41
                                    obtain ⟨y137, hy137⟩ : ∃ y_ : List Int, y_ = (y133.set (x3_34 : Int).toNat a2) := ⟨_, rfl⟩
                                    replace H : ((line_Lines.f kj34 (strOfNums x9_1)).bind fun bt138 => ((line_Lines.f kj34 (strOfNums x10_2)).bind fun bt143 => ((line_Lines.f kj34 (strOfNums y137)).bind fun bt148 => (if a2 = 9 then (entaillaw12_LineBounds.j3 kj34 ji5 ji8 a2 x3_34 y137 bt138.2.2 bt143.2.2 bt148.2.1 bt148.2.2 true) else (if a2 = 10 then (entaillaw12_LineBounds.j3 kj34 ji5 ji8 a2 x3_34 y137 bt138.2.2 bt143.2.2 bt148.2.1 bt148.2.2 true) else (if a2 ≥ 32 then (if a2 ≤ 126 then (entaillaw12_LineBounds.j3 kj34 ji5 ji8 a2 x3_34 y137 bt138.2.2 bt143.2.2 bt148.2.1 bt148.2.2 true) else (if a2 = 13 then (if x3_34 = 5 then (entaillaw12_LineBounds.j3 kj34 ji5 ji8 a2 x3_34 y137 bt138.2.2 bt143.2.2 bt148.2.1 bt148.2.2 true) else (entaillaw12_LineBounds.j3 kj34 ji5 ji8 a2 x3_34 y137 bt138.2.2 bt143.2.2 bt148.2.1 bt148.2.2 (x3_34 == 12))) else (entaillaw12_LineBounds.j3 kj34 ji5 ji8 a2 x3_34 y137 bt138.2.2 bt143.2.2 bt148.2.1 bt148.2.2 false))) else (if a2 = 13 then (if x3_34 = 5 then (entaillaw12_LineBounds.j3 kj34 ji5 ji8 a2 x3_34 y137 bt138.2.2 bt143.2.2 bt148.2.1 bt148.2.2 true) else (entaillaw12_LineBounds.j3 kj34 ji5 ji8 a2 x3_34 y137 bt138.2.2 bt143.2.2 bt148.2.1 bt148.2.2 (x3_34 == 12))) else (entaillaw12_LineBounds.j3 kj34 ji5 ji8 a2 x3_34 y137 bt138.2.2 bt143.2.2 bt148.2.1 bt148.2.2 false)))))))) = some r := by first | (rw [hy137]; with_reducible exact H) | (have H2_ := (Option.bind_some _ _).symm.trans H; rw [hy137]; with_reducible exact H2_) | (have H2_ := (Option.bind_some _ _).symm.trans H; with_reducible exact H2_) | with_reducible exact H | (rw [hy137]; exact H) | exact H
                                    have Ny137 := Aside0.mk hy137
                                    clear hy137
                                    replace H := Option.bind_eq_some_iff.mp H
                                    obtain ⟨⟨t138, t139, t140⟩, A430, H⟩ := H
                                    replace H : ((line_Lines.f kj34 (strOfNums x10_2)).bind fun bt143 => ((line_Lines.f kj34 (strOfNums y137)).bind fun bt148 => (if a2 = 9 then (entaillaw12_LineBounds.j3 kj34 ji5 ji8 a2 x3_34 y137 t140 bt143.2.2 bt148.2.1 bt148.2.2 true) else (if a2 = 10 then (entaillaw12_LineBounds.j3 kj34 ji5 ji8 a2 x3_34 y137 t140 bt143.2.2 bt148.2.1 bt148.2.2 true) else (if a2 ≥ 32 then (if a2 ≤ 126 then (entaillaw12_LineBounds.j3 kj34 ji5 ji8 a2 x3_34 y137 t140 bt143.2.2 bt148.2.1 bt148.2.2 true) else (if a2 = 13 then (if x3_34 = 5 then (entaillaw12_LineBounds.j3 kj34 ji5 ji8 a2 x3_34 y137 t140 bt143.2.2 bt148.2.1 bt148.2.2 true) else (entaillaw12_LineBounds.j3 kj34 ji5 ji8 a2 x3_34 y137 t140 bt143.2.2 bt148.2.1 bt148.2.2 (x3_34 == 12))) else (entaillaw12_LineBounds.j3 kj34 ji5 ji8 a2 x3_34 y137 t140 bt143.2.2 bt148.2.1 bt148.2.2 false))) else (if a2 = 13 then (if x3_34 = 5 then (entaillaw12_LineBounds.j3 kj34 ji5 ji8 a2 x3_34 y137 t140 bt143.2.2 bt148.2.1 bt148.2.2 true) else (entaillaw12_LineBounds.j3 kj34 ji5 ji8 a2 x3_34 y137 t140 bt143.2.2 bt148.2.1 bt148.2.2 (x3_34 == 12))) else (entaillaw12_LineBounds.j3 kj34 ji5 ji8 a2 x3_34 y137 t140 bt143.2.2 bt148.2.1 bt148.2.2 false))))))) = some r := H
                                    have A43 := Aside0.mk A430
                                    clear A430
                                    replace H := Option.bind_eq_some_iff.mp H
                                    obtain ⟨⟨t143, t144, t145⟩, A440, H⟩ := H
                                    replace H : ((line_Lines.f kj34 (strOfNums y137)).bind fun bt148 => (if a2 = 9 then (entaillaw12_LineBounds.j3 kj34 ji5 ji8 a2 x3_34 y137 t140 t145 bt148.2.1 bt148.2.2 true) else (if a2 = 10 then (entaillaw12_LineBounds.j3 kj34 ji5 ji8 a2 x3_34 y137 t140 t145 bt148.2.1 bt148.2.2 true) else (if a2 ≥ 32 then (if a2 ≤ 126 then (entaillaw12_LineBounds.j3 kj34 ji5 ji8 a2 x3_34 y137 t140 t145 bt148.2.1 bt148.2.2 true) else (if a2 = 13 then (if x3_34 = 5 then (entaillaw12_LineBounds.j3 kj34 ji5 ji8 a2 x3_34 y137 t140 t145 bt148.2.1 bt148.2.2 true) else (entaillaw12_LineBounds.j3 kj34 ji5 ji8 a2 x3_34 y137 t140 t145 bt148.2.1 bt148.2.2 (x3_34 == 12))) else (entaillaw12_LineBounds.j3 kj34 ji5 ji8 a2 x3_34 y137 t140 t145 bt148.2.1 bt148.2.2 false))) else (if a2 = 13 then (if x3_34 = 5 then (entaillaw12_LineBounds.j3 kj34 ji5 ji8 a2 x3_34 y137 t140 t145 bt148.2.1 bt148.2.2 true) else (entaillaw12_LineBounds.j3 kj34 ji5 ji8 a2 x3_34 y137 t140 t145 bt148.2.1 bt148.2.2 (x3_34 == 12))) else (entaillaw12_LineBounds.j3 kj34 ji5 ji8 a2 x3_34 y137 t140 t145 bt148.2.1 bt148.2.2 false)))))) = some r := H
                                    have A44 := Aside0.mk A440
                                    clear A440
                                    replace H := Option.bind_eq_some_iff.mp H
                                    obtain ⟨⟨t148, t149, t150⟩, A450, H⟩ := H
                                    replace H : (if a2 = 9 then (entaillaw12_LineBounds.j3 kj34 ji5 ji8 a2 x3_34 y137 t140 t145 t149 t150 true) else (if a2 = 10 then (entaillaw12_LineBounds.j3 kj34 ji5 ji8 a2 x3_34 y137 t140 t145 t149 t150 true) else (if a2 ≥ 32 then (if a2 ≤ 126 then (entaillaw12_LineBounds.j3 kj34 ji5 ji8 a2 x3_34 y137 t140 t145 t149 t150 true) else (if a2 = 13 then (if x3_34 = 5 then (entaillaw12_LineBounds.j3 kj34 ji5 ji8 a2 x3_34 y137 t140 t145 t149 t150 true) else (entaillaw12_LineBounds.j3 kj34 ji5 ji8 a2 x3_34 y137 t140 t145 t149 t150 (x3_34 == 12))) else (entaillaw12_LineBounds.j3 kj34 ji5 ji8 a2 x3_34 y137 t140 t145 t149 t150 false))) else (if a2 = 13 then (if x3_34 = 5 then (entaillaw12_LineBounds.j3 kj34 ji5 ji8 a2 x3_34 y137 t140 t145 t149 t150 true) else (entaillaw12_LineBounds.j3 kj34 ji5 ji8 a2 x3_34 y137 t140 t145 t149 t150 (x3_34 == 12))) else (entaillaw12_LineBounds.j3 kj34 ji5 ji8 a2 x3_34 y137 t140 t145 t149 t150 false))))) = some r := H
                                    have A45 := Aside0.mk A450
                                    clear A450
                                    have HC46 := Aside0.mk H
                                    clear H
                                    have p42 : 0 ≤ (x3_34 : Int) := of_decide_eq_true (by first | (with_reducible assumption) | assumption)
                                    have q42 : (x3_34 : Int) < ((y133.length : Int) : Int) := of_decide_eq_true (by first | (with_reducible assumption) | assumption)
                                    obtain ⟨go42, co42, eo42, gb42, gl42, cl42, HG42⟩ := YtamgobcahgcejaaDoorMark.form HO_13.out
                                    (first | cases eo42 | (injection eo42 with ea_ en_ ec_; (first | subst ea_ | (injection ea_ with ea_; subst ea_)); subst ec_; clear en_))
                                    have GB42 := Aside0.mk gb42
                                    have GG42 := Aside0.mk HG42
                                    clear gb42 gl42 HG42
                                    (first | simp only [add_plain] at hx136_0 | skip)
                                    obtain ⟨hx42_0, hf42_0⟩ := YtamgobcahgcejaaDoorMark.celln HO_13.out (x3_34 : Int) p42 q42
                                    replace p42 := eq_true p42
                                    replace q42 := eq_true q42
                                    have HP47 := YtamgobcahgcejaaDoorMark.putg HO_13.out (x3_34 : Int) a2
                                    go_upto_region 21 with (first | ((with_reducible refine gate_store (t := 5) (p := 69) rfl ?_); refine store_event (t := 5) (p := 69) (v := ?vo_w48) (w1 := (wc.setCell ⟨go42, (x3_34 : Int).toNat, none⟩ (.int .u8 a2))) ?hg ?ho ?hn ?hr ?_; (case ho => rfl); (case hg => rfl); (case hn => rfl); (case hr => first | (go_simp; done) | (go_simp; rfl)); intro w48 hw; have hg : wc.grownBy w48 (some go42) := (by rw [hw]; exact HP47.2); have hp_ : YtamgobcahgcejaaDoorMark.MR 5 w48 w.heap.size (fun k_ => some k_ ≠ (.slice Ao17 x9_1.length co17 : Value).ownBlock ∧ some k_ ≠ (.slice Ao24 x10_2.length co24 : Value).ownBlock) (.slice (some ⟨go42, 0, none⟩) y133.length co38) y137 := (by rw [hw, Ny137.out]; exact HP47.1); clear HP47; have n0_ := Aside0.mk (Kd.R_after (v := (.slice (some ⟨go42, 0, none⟩) y133.length co38)) (v1 := (.slice (some ⟨go42, 0, none⟩) y133.length co38)) (ok := (fun k_ => some k_ ≠ (.slice Ao24 x10_2.length co24 : Value).ownBlock)) (by (with_reducible repeat (first | apply Kd.R_alloc | apply Kd.R_drewN | apply Kd.R_drew)); exact HO_9.out) hg (.inl rfl)); have n1_ := Aside0.mk (Kd.R_after (v := (.slice (some ⟨go42, 0, none⟩) y133.length co38)) (v1 := (.slice (some ⟨go42, 0, none⟩) y133.length co38)) (ok := (fun k_ => some k_ ≠ (.slice Ao17 x9_1.length co17 : Value).ownBlock)) (by (with_reducible repeat (first | apply Kd.R_alloc | apply Kd.R_drewN | apply Kd.R_drew)); exact HO_10.out) hg (.inl rfl)); have n2_ := Aside0.mk (hp_); have n3_ := Aside0.mk ((by rw [hw]; exact below_set (HB.out) GB42.out : Below w.heap.size w w48)); clear HO_9; clear HO_10; clear HO_13; clear HB; have HO_9 := n0_; have HO_10 := n1_; have HO_13 := n2_; have HB := n3_; clear n0_ n1_ n2_ n3_; clear hg hw hp_; have hcv49 := own_string (P := Tryd.prog) Tryd.underlying45 Tryd.underlying5 Tryd.underlying9 (Kd.own_of_R HO_9.out)) | ((with_reducible refine gate_callee (f := 7) rfl ?_); refine goesL_ (some 73) rfl rfl Tryd.func7 (by kernel_rfl) rfl #[.string (strOfNums x9_1)] rfl (by (try simp only [List.map_toArray, List.map_cons, List.map_nil]); first | done | rfl | (simp only [List.length_drop, List.length_take]; rfl)) ?_; (with_reducible refine (line_Lines.calls kj34 (strOfNums x9_1) t138 t139 t140 _ A43.out).mono ?_); rintro e w50 ⟨v141, rfl, ho0, hb⟩; refine ⟨_, rfl, ?_⟩; have n0_ := Aside0.mk (Kd.R_below (by (with_reducible repeat (first | apply Kd.R_alloc | apply Kd.R_drewN | apply Kd.R_drew)); exact HO_9.out) hb); have n1_ := Aside0.mk (Kd.R_below (by (with_reducible repeat (first | apply Kd.R_alloc | apply Kd.R_drewN | apply Kd.R_drew)); exact HO_10.out) hb); have n2_ := Aside0.mk (YtamgobcahgcejaaDoorMark.below (by (with_reducible repeat (first | apply YtamgobcahgcejaaDoorMark.alloc | apply YtamgobcahgcejaaDoorMark.drewN | apply YtamgobcahgcejaaDoorMark.drew)); exact HO_13.out) hb); have n3_ := Aside0.mk (Kd.S_lower ho0 (below_size (by repeat (first | (with_reducible first | exact HB.out | apply below_alloc | apply pw_below_drewN | apply below_drew1) | exact HB.out)))); have n4_ := Aside0.mk (below_step (by repeat (first | (with_reducible first | exact HB.out | apply below_alloc | apply pw_below_drewN | apply below_drew1) | exact HB.out)) hb); clear HO_9; clear HO_10; clear HO_13; clear HB; have HO_9 := n0_; have HO_10 := n1_; have HO_13 := n2_; have HO142 := n3_; have HB := n4_; clear n0_ n1_ n2_ n3_ n4_; (try clear hb); (try clear hb2); (try clear hk); (try clear hi); (try clear ho0); have hcv51 := own_string (P := Tryd.prog) Tryd.underlying45 Tryd.underlying5 Tryd.underlying9 (Kd.own_of_R HO_10.out)) | ((with_reducible refine gate_callee (f := 7) rfl ?_); refine goesL_ (some 80) rfl rfl Tryd.func7 (by kernel_rfl) rfl #[.string (strOfNums x10_2)] rfl (by (try simp only [List.map_toArray, List.map_cons, List.map_nil]); first | done | rfl | (simp only [List.length_drop, List.length_take]; rfl)) ?_; (with_reducible refine (line_Lines.calls kj34 (strOfNums x10_2) t143 t144 t145 _ A44.out).mono ?_); rintro e w52 ⟨v146, rfl, ho0, hb⟩; refine ⟨_, rfl, ?_⟩; have n0_ := Aside0.mk (Kd.R_below (by (with_reducible repeat (first | apply Kd.R_alloc | apply Kd.R_drewN | apply Kd.R_drew)); exact HO_9.out) hb); have n1_ := Aside0.mk (Kd.R_below (by (with_reducible repeat (first | apply Kd.R_alloc | apply Kd.R_drewN | apply Kd.R_drew)); exact HO_10.out) hb); have n2_ := Aside0.mk (YtamgobcahgcejaaDoorMark.below (by (with_reducible repeat (first | apply YtamgobcahgcejaaDoorMark.alloc | apply YtamgobcahgcejaaDoorMark.drewN | apply YtamgobcahgcejaaDoorMark.drew)); exact HO_13.out) hb); have n3_ := Aside0.mk (Kd.S_elder' (by (with_reducible repeat (first | apply Kd.S_alloc | apply Kd.S_drewN | apply Kd.S_drew)); exact HO142.out) (Kd.S_base ho0) hb); have n4_ := Aside0.mk (Kd.S_lower (Kd.S_new' ho0 (Kd.S_lt (by (with_reducible repeat (first | apply Kd.S_alloc | apply Kd.S_drewN | apply Kd.S_drew)); exact HO142.out))) (below_size (by repeat (first | (with_reducible first | exact HB.out | apply below_alloc | apply pw_below_drewN | apply below_drew1) | exact HB.out)))); have n5_ := Aside0.mk (below_step (by repeat (first | (with_reducible first | exact HB.out | apply below_alloc | apply pw_below_drewN | apply below_drew1) | exact HB.out)) hb); clear HO_9; clear HO_10; clear HO_13; clear HO142; clear HB; have HO_9 := n0_; have HO_10 := n1_; have HO_13 := n2_; have HO142 := n3_; have HO147 := n4_; have HB := n5_; clear n0_ n1_ n2_ n3_ n4_ n5_; (try clear hb); (try clear hb2); (try clear hk); (try clear hi); (try clear ho0); have hcv53 := YtamgobcahgcejaaDoorMark.str (P := Tryd.prog) Tryd.underlying45 Tryd.underlying5 Tryd.underlying9 HO_13.out) | ((with_reducible refine gate_callee (f := 7) rfl ?_); refine goesL_ (some 87) rfl rfl Tryd.func7 (by kernel_rfl) rfl #[.string (strOfNums y137)] rfl (by (try simp only [List.map_toArray, List.map_cons, List.map_nil]); first | done | rfl | (simp only [List.length_drop, List.length_take]; rfl)) ?_; (with_reducible refine (line_Lines.calls kj34 (strOfNums y137) t148 t149 t150 _ A45.out).mono ?_); rintro e w54 ⟨v151, rfl, ho0, hb⟩; refine ⟨_, rfl, ?_⟩; have n0_ := Aside0.mk (Kd.R_below (by (with_reducible repeat (first | apply Kd.R_alloc | apply Kd.R_drewN | apply Kd.R_drew)); exact HO_9.out) hb); have n1_ := Aside0.mk (Kd.R_below (by (with_reducible repeat (first | apply Kd.R_alloc | apply Kd.R_drewN | apply Kd.R_drew)); exact HO_10.out) hb); have n2_ := Aside0.mk (YtamgobcahgcejaaDoorMark.below (by (with_reducible repeat (first | apply YtamgobcahgcejaaDoorMark.alloc | apply YtamgobcahgcejaaDoorMark.drewN | apply YtamgobcahgcejaaDoorMark.drew)); exact HO_13.out) hb); have n3_ := Aside0.mk (Kd.S_elder' (by (with_reducible repeat (first | apply Kd.S_alloc | apply Kd.S_drewN | apply Kd.S_drew)); exact HO142.out) (Kd.S_base ho0) hb); have n4_ := Aside0.mk (Kd.S_elder' (by (with_reducible repeat (first | apply Kd.S_alloc | apply Kd.S_drewN | apply Kd.S_drew)); exact HO147.out) (Kd.S_base ho0) hb); have n5_ := Aside0.mk (Kd.S_lower (Kd.S_new' (Kd.S_new' ho0 (Kd.S_lt (by (with_reducible repeat (first | apply Kd.S_alloc | apply Kd.S_drewN | apply Kd.S_drew)); exact HO142.out))) (Kd.S_lt (by (with_reducible repeat (first | apply Kd.S_alloc | apply Kd.S_drewN | apply Kd.S_drew)); exact HO147.out))) (below_size (by repeat (first | (with_reducible first | exact HB.out | apply below_alloc | apply pw_below_drewN | apply below_drew1) | exact HB.out)))); have n6_ := Aside0.mk (below_step (by repeat (first | (with_reducible first | exact HB.out | apply below_alloc | apply pw_below_drewN | apply below_drew1) | exact HB.out)) hb); clear HO_9; clear HO_10; clear HO_13; clear HO142; clear HO147; clear HB; have HO_9 := n0_; have HO_10 := n1_; have HO_13 := n2_; have HO142 := n3_; have HO147 := n4_; have HO152 := n5_; have HB := n6_; clear n0_ n1_ n2_ n3_ n4_ n5_ n6_; (try clear hb); (try clear hb2); (try clear hk); (try clear hi); (try clear ho0)))
                                    (try simp only [Act.put, List.setIfInBounds_toArray, List.set_cons_zero, List.set_cons_succ])
                                    go_cut [23] (fun v23 wc => ∃ (kq : Nat) (x23_45 : Bool), v23 = .bool x23_45 ∧ Aside0 (entaillaw12_LineBounds.j3 kq ji5 ji8 a2 x3_34 y137 t140 t145 t149 t150 x23_45 = some r) ∧ Aside0 (kq ≤ kj34) ∧ Aside0 (YtamgobcahgcejaaDoorMark.MR 5 wc w.heap.size (fun _ => True) (.slice (some ⟨go42, 0, none⟩) y133.length co38) y137) ∧ Aside0 (Below w.heap.size w wc))
                                    case first =>
                                      have H := HC46.out
                                      clear HC46
                                      by_cases c55 : a2 = 9
                                      · rw [if_pos c55] at H
                                        have c55b0 : (a2 == 9) = true := beq_iff_eq.mpr c55
                                        have c55b1 : (a2 != 9) = false := bne_eq_false_iff_eq.mpr c55
                                        clear c55
                                        (first | rw [c55b0] | (simp only [i64_w, i32_w]; rw [c55b0]) | skip)
                                        have H' := Aside0.mk H
                                        clear H
                                        go_wp2
                                        go_meet
                                        case rel => exact ⟨_, (true), (by first | rfl | (simp; done) | (simp [*]; done)), H', ⟨by have := HK1.out; have := HK2.out; have := HJ34.out; first | omega | exact Nat.le_refl _⟩, ⟨by (try simp only [hl9_1]); (try simp only [hl10_2]); (with_reducible repeat (first | apply Kd.R_alloc | apply Kd.R_drewN | apply Kd.R_drew)); (with_reducible repeat (first | apply YtamgobcahgcejaaDoorMark.alloc | apply YtamgobcahgcejaaDoorMark.drewN | apply YtamgobcahgcejaaDoorMark.drew)); exact YtamgobcahgcejaaDoorMark.mono HO_13.out (fun _ hk => trivial)⟩, ⟨by repeat (first | (with_reducible first | exact HB.out | apply below_alloc | apply pw_below_drewN | apply below_drew1) | exact HB.out)⟩⟩
                                      · rw [if_neg c55] at H
                                        have c55b0 : (a2 == 9) = false := beq_eq_false_iff_ne.mpr c55
                                        have c55b1 : (a2 != 9) = true := bne_iff_ne.mpr c55
                                        (first | rw [c55b0] | (simp only [i64_w, i32_w]; rw [c55b0]) | skip)
                                        by_cases c56 : a2 = 10
                                        · rw [if_pos c56] at H
                                          have c56b0 : (a2 == 10) = true := beq_iff_eq.mpr c56
                                          have c56b1 : (a2 != 10) = false := bne_eq_false_iff_eq.mpr c56
                                          clear c56
                                          have H' := Aside0.mk H
                                          clear H
                                          go_wp2
                                          go_meet
                                          case rel => exact ⟨_, (true), (by first | rfl | (simp; done) | (simp [*]; done)), H', ⟨by have := HK1.out; have := HK2.out; have := HJ34.out; first | omega | exact Nat.le_refl _⟩, ⟨by (try simp only [hl9_1]); (try simp only [hl10_2]); (with_reducible repeat (first | apply Kd.R_alloc | apply Kd.R_drewN | apply Kd.R_drew)); (with_reducible repeat (first | apply YtamgobcahgcejaaDoorMark.alloc | apply YtamgobcahgcejaaDoorMark.drewN | apply YtamgobcahgcejaaDoorMark.drew)); exact YtamgobcahgcejaaDoorMark.mono HO_13.out (fun _ hk => trivial)⟩, ⟨by repeat (first | (with_reducible first | exact HB.out | apply below_alloc | apply pw_below_drewN | apply below_drew1) | exact HB.out)⟩⟩
                                        · rw [if_neg c56] at H
                                          have c56b0 : (a2 == 10) = false := beq_eq_false_iff_ne.mpr c56
                                          have c56b1 : (a2 != 10) = true := bne_iff_ne.mpr c56
                                          by_cases c57 : a2 ≥ 32
                                          · rw [if_pos c57] at H
                                            have c57b0 : decide (32 ≤ a2) = true := decide_eq_true c57
                                            clear c57
                                            by_cases c58 : a2 ≤ 126
                                            · rw [if_pos c58] at H
                                              have c58b0 : decide (a2 ≤ 126) = true := decide_eq_true c58
                                              clear c58
                                              have H' := Aside0.mk H
                                              clear H
                                              go_wp2
                                              go_meet
                                              case rel => exact ⟨_, (true), (by first | rfl | (simp; done) | (simp [*]; done)), H', ⟨by have := HK1.out; have := HK2.out; have := HJ34.out; first | omega | exact Nat.le_refl _⟩, ⟨by (try simp only [hl9_1]); (try simp only [hl10_2]); (with_reducible repeat (first | apply Kd.R_alloc | apply Kd.R_drewN | apply Kd.R_drew)); (with_reducible repeat (first | apply YtamgobcahgcejaaDoorMark.alloc | apply YtamgobcahgcejaaDoorMark.drewN | apply YtamgobcahgcejaaDoorMark.drew)); exact YtamgobcahgcejaaDoorMark.mono HO_13.out (fun _ hk => trivial)⟩, ⟨by repeat (first | (with_reducible first | exact HB.out | apply below_alloc | apply pw_below_drewN | apply below_drew1) | exact HB.out)⟩⟩
                                            · rw [if_neg c58] at H
                                              have c58b0 : decide (a2 ≤ 126) = false := decide_eq_false c58
                                              clear c58
                                              by_cases c59 : a2 = 13
                                              · rw [if_pos c59] at H
                                                have c59b0 : (a2 == 13) = true := beq_iff_eq.mpr c59
                                                have c59b1 : (a2 != 13) = false := bne_eq_false_iff_eq.mpr c59
                                                clear c59
                                                by_cases c60 : x3_34 = 5
                                                · rw [if_pos c60] at H
                                                  have c60b0 : (x3_34 == 5) = true := beq_iff_eq.mpr c60
                                                  have c60b1 : (x3_34 != 5) = false := bne_eq_false_iff_eq.mpr c60
                                                  clear c60
                                                  have H' := Aside0.mk H
                                                  clear H
                                                  go_wp2
                                                  go_meet
                                                  case rel => exact ⟨_, (true), (by first | rfl | (simp; done) | (simp [*]; done)), H', ⟨by have := HK1.out; have := HK2.out; have := HJ34.out; first | omega | exact Nat.le_refl _⟩, ⟨by (try simp only [hl9_1]); (try simp only [hl10_2]); (with_reducible repeat (first | apply Kd.R_alloc | apply Kd.R_drewN | apply Kd.R_drew)); (with_reducible repeat (first | apply YtamgobcahgcejaaDoorMark.alloc | apply YtamgobcahgcejaaDoorMark.drewN | apply YtamgobcahgcejaaDoorMark.drew)); exact YtamgobcahgcejaaDoorMark.mono HO_13.out (fun _ hk => trivial)⟩, ⟨by repeat (first | (with_reducible first | exact HB.out | apply below_alloc | apply pw_below_drewN | apply below_drew1) | exact HB.out)⟩⟩
                                                · rw [if_neg c60] at H
                                                  have c60b0 : (x3_34 == 5) = false := beq_eq_false_iff_ne.mpr c60
                                                  have c60b1 : (x3_34 != 5) = true := bne_iff_ne.mpr c60
                                                  have H' := Aside0.mk H
                                                  clear H
                                                  go_wp2
                                                  go_meet
                                                  case rel => exact ⟨_, ((x3_34 == 12)), (by first | rfl | (simp; done) | (simp [*]; done)), H', ⟨by have := HK1.out; have := HK2.out; have := HJ34.out; first | omega | exact Nat.le_refl _⟩, ⟨by (try simp only [hl9_1]); (try simp only [hl10_2]); (with_reducible repeat (first | apply Kd.R_alloc | apply Kd.R_drewN | apply Kd.R_drew)); (with_reducible repeat (first | apply YtamgobcahgcejaaDoorMark.alloc | apply YtamgobcahgcejaaDoorMark.drewN | apply YtamgobcahgcejaaDoorMark.drew)); exact YtamgobcahgcejaaDoorMark.mono HO_13.out (fun _ hk => trivial)⟩, ⟨by repeat (first | (with_reducible first | exact HB.out | apply below_alloc | apply pw_below_drewN | apply below_drew1) | exact HB.out)⟩⟩
                                              · rw [if_neg c59] at H
                                                have c59b0 : (a2 == 13) = false := beq_eq_false_iff_ne.mpr c59
                                                have c59b1 : (a2 != 13) = true := bne_iff_ne.mpr c59
                                                have H' := Aside0.mk H
                                                clear H
                                                go_wp2
                                                go_meet
                                                case rel => exact ⟨_, (false), (by first | rfl | (simp; done) | (simp [*]; done)), H', ⟨by have := HK1.out; have := HK2.out; have := HJ34.out; first | omega | exact Nat.le_refl _⟩, ⟨by (try simp only [hl9_1]); (try simp only [hl10_2]); (with_reducible repeat (first | apply Kd.R_alloc | apply Kd.R_drewN | apply Kd.R_drew)); (with_reducible repeat (first | apply YtamgobcahgcejaaDoorMark.alloc | apply YtamgobcahgcejaaDoorMark.drewN | apply YtamgobcahgcejaaDoorMark.drew)); exact YtamgobcahgcejaaDoorMark.mono HO_13.out (fun _ hk => trivial)⟩, ⟨by repeat (first | (with_reducible first | exact HB.out | apply below_alloc | apply pw_below_drewN | apply below_drew1) | exact HB.out)⟩⟩
                                          · rw [if_neg c57] at H
                                            have c57b0 : decide (32 ≤ a2) = false := decide_eq_false c57
                                            clear c57
                                            by_cases c61 : a2 = 13
                                            · rw [if_pos c61] at H
                                              have c61b0 : (a2 == 13) = true := beq_iff_eq.mpr c61
                                              have c61b1 : (a2 != 13) = false := bne_eq_false_iff_eq.mpr c61
                                              clear c61
                                              by_cases c62 : x3_34 = 5
                                              · rw [if_pos c62] at H
                                                have c62b0 : (x3_34 == 5) = true := beq_iff_eq.mpr c62
                                                have c62b1 : (x3_34 != 5) = false := bne_eq_false_iff_eq.mpr c62
                                                clear c62
                                                have H' := Aside0.mk H
                                                clear H
                                                go_wp2
                                                go_meet
                                                case rel => exact ⟨_, (true), (by first | rfl | (simp; done) | (simp [*]; done)), H', ⟨by have := HK1.out; have := HK2.out; have := HJ34.out; first | omega | exact Nat.le_refl _⟩, ⟨by (try simp only [hl9_1]); (try simp only [hl10_2]); (with_reducible repeat (first | apply Kd.R_alloc | apply Kd.R_drewN | apply Kd.R_drew)); (with_reducible repeat (first | apply YtamgobcahgcejaaDoorMark.alloc | apply YtamgobcahgcejaaDoorMark.drewN | apply YtamgobcahgcejaaDoorMark.drew)); exact YtamgobcahgcejaaDoorMark.mono HO_13.out (fun _ hk => trivial)⟩, ⟨by repeat (first | (with_reducible first | exact HB.out | apply below_alloc | apply pw_below_drewN | apply below_drew1) | exact HB.out)⟩⟩
                                              · rw [if_neg c62] at H
                                                have c62b0 : (x3_34 == 5) = false := beq_eq_false_iff_ne.mpr c62
                                                have c62b1 : (x3_34 != 5) = true := bne_iff_ne.mpr c62
                                                have H' := Aside0.mk H
                                                clear H
                                                go_wp2
                                                go_meet
                                                case rel => exact ⟨_, ((x3_34 == 12)), (by first | rfl | (simp; done) | (simp [*]; done)), H', ⟨by have := HK1.out; have := HK2.out; have := HJ34.out; first | omega | exact Nat.le_refl _⟩, ⟨by (try simp only [hl9_1]); (try simp only [hl10_2]); (with_reducible repeat (first | apply Kd.R_alloc | apply Kd.R_drewN | apply Kd.R_drew)); (with_reducible repeat (first | apply YtamgobcahgcejaaDoorMark.alloc | apply YtamgobcahgcejaaDoorMark.drewN | apply YtamgobcahgcejaaDoorMark.drew)); exact YtamgobcahgcejaaDoorMark.mono HO_13.out (fun _ hk => trivial)⟩, ⟨by repeat (first | (with_reducible first | exact HB.out | apply below_alloc | apply pw_below_drewN | apply below_drew1) | exact HB.out)⟩⟩
                                            · rw [if_neg c61] at H
                                              have c61b0 : (a2 == 13) = false := beq_eq_false_iff_ne.mpr c61
                                              have c61b1 : (a2 != 13) = true := bne_iff_ne.mpr c61
                                              have H' := Aside0.mk H
                                              clear H
                                              go_wp2
                                              go_meet
                                              case rel => exact ⟨_, (false), (by first | rfl | (simp; done) | (simp [*]; done)), H', ⟨by have := HK1.out; have := HK2.out; have := HJ34.out; first | omega | exact Nat.le_refl _⟩, ⟨by (try simp only [hl9_1]); (try simp only [hl10_2]); (with_reducible repeat (first | apply Kd.R_alloc | apply Kd.R_drewN | apply Kd.R_drew)); (with_reducible repeat (first | apply YtamgobcahgcejaaDoorMark.alloc | apply YtamgobcahgcejaaDoorMark.drewN | apply YtamgobcahgcejaaDoorMark.drew)); exact YtamgobcahgcejaaDoorMark.mono HO_13.out (fun _ hk => trivial)⟩, ⟨by repeat (first | (with_reducible first | exact HB.out | apply below_alloc | apply pw_below_drewN | apply below_drew1) | exact HB.out)⟩⟩
                                    case rest =>
                                      clear HC46
                                      try clear c1
                                      try clear p1
                                      try clear q1
                                      try clear hx1
                                      try clear c2
                                      try clear p2
                                      try clear q2
                                      try clear hx2
                                      try clear c3
                                      try clear c4
                                      try clear p4
                                      try clear q4
                                      try clear hx4
                                      try clear hcv4
                                      try clear hf4
                                      try clear c5
                                      try clear hcv5
                                      try clear c6
                                      try clear c6b0
                                      try clear c6b1
                                      try clear p6
                                      try clear c7
                                      try clear c7b0
                                      try clear c7b1
                                      try clear c9
                                      try clear c9b0
                                      try clear c9b1
                                      try clear c10
                                      try clear c10b0
                                      try clear c10b1
                                      try clear p13
                                      try clear q13
                                      try clear hx13
                                      try clear c18
                                      try clear c18b0
                                      try clear c19
                                      try clear c19b0
                                      try clear c20
                                      try clear c20b0
                                      try clear p21
                                      try clear q21
                                      try clear hx21
                                      try clear hf21
                                      try clear c25
                                      try clear c25b0
                                      try clear c26
                                      try clear c26b0
                                      try clear c27
                                      try clear c27b0
                                      try clear p28
                                      try clear q28
                                      try clear hx28
                                      try clear hf28
                                      try clear c31
                                      try clear c31b0
                                      try clear c31b1
                                      try clear c31b2
                                      try clear c33
                                      try clear c33b0
                                      try clear c34
                                      try clear c34b0
                                      try clear c39
                                      try clear c39b0
                                      try clear c39b1
                                      try clear c40
                                      try clear c40b0
                                      try clear c41
                                      try clear c41b0
                                      try clear p42
                                      try clear q42
                                      try clear hx42
                                      try clear hf42
                                      try clear hcv49
                                      try clear hcv51
                                      try clear hcv53
                                      try clear c55
                                      try clear c55b0
                                      try clear c55b1
                                      try clear c56
                                      try clear c56b0
                                      try clear c56b1
                                      try clear c57
                                      try clear c57b0
                                      try clear c58
                                      try clear c58b0
                                      try clear c59
                                      try clear c59b0
                                      try clear c59b1
                                      try clear c60
                                      try clear c60b0
                                      try clear c60b1
                                      try clear c61
                                      try clear c61b0
                                      try clear c61b1
                                      try clear c62
                                      try clear c62b0
                                      try clear c62b1
                                      try clear hx136_0
                                      try clear hx21_0
                                      try clear hx28_0
                                      try clear hx42_0
                                      try clear p1
                                      try clear p13
                                      try clear p136
                                      try clear p2
                                      try clear p21
                                      try clear p28
                                      try clear p42
                                      try clear p6
                                      try clear q1
                                      try clear q13
                                      try clear q136
                                      try clear q2
                                      try clear q21
                                      try clear q28
                                      try clear q42
                                      obtain ⟨kq, x23_45, rfl, HA, HJ45, HO_13, HB⟩ := hcut
                                      have hl13_45 := (YtamgobcahgcejaaDoorMark.reads HO_13.out).1
                                      rw [hl13_45] at HO_13
                                      (try simp only [hl13_45])
                                      cases kq with
                                      | zero => exact absurd HA.out (by simp [entaillaw12_LineBounds.j3])
                                      | succ kj45 =>
                                        have H := HA.out
                                        clear HA
                                        simp only [entaillaw12_LineBounds.j3] at H
                                        have HC63 := Aside0.mk H
                                        clear H
                                        go_upto_region 22 with (fail)
                                        go_cut [133] (fun v133 wc => ∃ (kq : Nat) (x133_62 : Bool), v133 = .bool x133_62 ∧ Aside0 (entaillaw12_LineBounds.j4 kq ji5 ji8 x3_34 t140 t145 t149 t150 x23_45 x133_62 = some r) ∧ Aside0 (kq ≤ kj45) ∧ Aside0 (Below w.heap.size w wc))
                                        case first =>
                                          have H := HC63.out
                                          clear HC63
                                          by_cases c64 : (wrap64 (x3_34 + 1)) < (y137.length : Int)
                                          · rw [if_pos c64] at H
                                            have c64b0 : decide ((wrap64 (x3_34 + 1)) < (y137.length : Int)) = true := decide_eq_true c64
                                            clear c64
                                            (first | rw [c64b0] | (simp only [i64_w, i32_w]; rw [c64b0]) | skip)
                                            obtain ⟨ji65, hji65⟩ : ∃ j_ : Int, (wrap64 (x3_34 + 1)) = j_ := ⟨_, rfl⟩
                                            replace H : (if 0 ≤ (ji65) then (if (rd y137 (ji65)) = 10 then (entaillaw12_LineBounds.j4 kj45 ji5 ji8 x3_34 t140 t145 t149 t150 x23_45 (a2 == 13)) else (entaillaw12_LineBounds.j4 kj45 ji5 ji8 x3_34 t140 t145 t149 t150 x23_45 false)) else (none)) = some r := by first | (rw [hji65] at H; exact H) | (simp only [hji65] at H ⊢; exact H)
                                            (try rw [hji65] at c64b0)
                                            have hji65w : (IntKind.i64.wrap (x3_34 + 1)) = ji65 := (i64_w _).trans hji65
                                            by_cases c66 : 0 ≤ (ji65)
                                            · rw [if_pos c66] at H
                                              have c66b0 : decide (0 ≤ (ji65)) = true := decide_eq_true c66
                                              clear c66
                                              by_cases c67 : (rd y137 (ji65)) = 10
                                              · rw [if_pos c67] at H
                                                have c67b0 : ((rd y137 (ji65)) == 10) = true := beq_iff_eq.mpr c67
                                                have c67b1 : ((rd y137 (ji65)) != 10) = false := bne_eq_false_iff_eq.mpr c67
                                                clear c67
                                                have H' := Aside0.mk H
                                                clear H
                                                have p153 : 0 ≤ ((ji65) : Int) := of_decide_eq_true (by first | (with_reducible assumption) | assumption)
                                                have q153 : (ji65) < (y137.length : Int) := of_decide_eq_true (by first | (with_reducible assumption) | assumption)
                                                obtain ⟨ad153, e153, hx153_0⟩ := Kd.at_int (YtamgobcahgcejaaDoorMark.reads HO_13.out).2.2 (ji65) p153 q153
                                                obtain rfl : (⟨go42, 0, none⟩ : Addr) = ad153 := (by injection e153)
                                                (first | simp only [add_plain] at hx153_0 | simp only [add_at] at hx153_0 | simp only [Addr.add, Nat.zero_add] at hx153_0 | skip)
                                                replace p153 := eq_true p153
                                                replace q153 := eq_true q153
                                                go_wp2
                                                go_meet
                                                case rel => exact ⟨_, ((a2 == 13)), (by first | rfl | (simp; done) | (simp [*]; done)), H', ⟨by have := HK1.out; have := HK2.out; have := HJ34.out; have := HJ45.out; first | omega | exact Nat.le_refl _⟩, ⟨by repeat (first | (with_reducible first | exact HB.out | apply below_alloc | apply pw_below_drewN | apply below_drew1) | exact HB.out)⟩⟩
                                              · rw [if_neg c67] at H
                                                have c67b0 : ((rd y137 (ji65)) == 10) = false := beq_eq_false_iff_ne.mpr c67
                                                have c67b1 : ((rd y137 (ji65)) != 10) = true := bne_iff_ne.mpr c67
                                                have H' := Aside0.mk H
                                                clear H
                                                have p153 : 0 ≤ ((ji65) : Int) := of_decide_eq_true (by first | (with_reducible assumption) | assumption)
                                                have q153 : (ji65) < (y137.length : Int) := of_decide_eq_true (by first | (with_reducible assumption) | assumption)
                                                obtain ⟨ad153, e153, hx153_0⟩ := Kd.at_int (YtamgobcahgcejaaDoorMark.reads HO_13.out).2.2 (ji65) p153 q153
                                                obtain rfl : (⟨go42, 0, none⟩ : Addr) = ad153 := (by injection e153)
                                                (first | simp only [add_plain] at hx153_0 | simp only [add_at] at hx153_0 | simp only [Addr.add, Nat.zero_add] at hx153_0 | skip)
                                                replace p153 := eq_true p153
                                                replace q153 := eq_true q153
                                                go_wp2
                                                go_meet
                                                case rel => exact ⟨_, (false), (by first | rfl | (simp; done) | (simp [*]; done)), H', ⟨by have := HK1.out; have := HK2.out; have := HJ34.out; have := HJ45.out; first | omega | exact Nat.le_refl _⟩, ⟨by repeat (first | (with_reducible first | exact HB.out | apply below_alloc | apply pw_below_drewN | apply below_drew1) | exact HB.out)⟩⟩
                                            · rw [if_neg c66] at H
                                              exact absurd H (by simp)
                                          · rw [if_neg c64] at H
                                            have c64b0 : decide ((wrap64 (x3_34 + 1)) < (y137.length : Int)) = false := decide_eq_false c64
                                            clear c64
                                            (first | rw [c64b0] | (simp only [i64_w, i32_w]; rw [c64b0]) | skip)
                                            have H' := Aside0.mk H
                                            clear H
                                            go_wp2
                                            go_meet
                                            case rel => exact ⟨_, (false), (by first | rfl | (simp; done) | (simp [*]; done)), H', ⟨by have := HK1.out; have := HK2.out; have := HJ34.out; have := HJ45.out; first | omega | exact Nat.le_refl _⟩, ⟨by repeat (first | (with_reducible first | exact HB.out | apply below_alloc | apply pw_below_drewN | apply below_drew1) | exact HB.out)⟩⟩
                                        case rest =>
                                          clear HC63
                                          try clear c1
                                          try clear p1
                                          try clear q1
                                          try clear hx1
                                          try clear c2
                                          try clear p2
                                          try clear q2
                                          try clear hx2
                                          try clear c3
                                          try clear c4
                                          try clear p4
                                          try clear q4
                                          try clear hx4
                                          try clear hcv4
                                          try clear hf4
                                          try clear c5
                                          try clear hcv5
                                          try clear c6
                                          try clear c6b0
                                          try clear c6b1
                                          try clear p6
                                          try clear c7
                                          try clear c7b0
                                          try clear c7b1
                                          try clear c9
                                          try clear c9b0
                                          try clear c9b1
                                          try clear c10
                                          try clear c10b0
                                          try clear c10b1
                                          try clear p13
                                          try clear q13
                                          try clear hx13
                                          try clear p15
                                          try clear q15
                                          try clear hx15
                                          try clear c18
                                          try clear c18b0
                                          try clear c19
                                          try clear c19b0
                                          try clear c20
                                          try clear c20b0
                                          try clear p21
                                          try clear q21
                                          try clear hx21
                                          try clear hf21
                                          try clear c25
                                          try clear c25b0
                                          try clear c26
                                          try clear c26b0
                                          try clear c27
                                          try clear c27b0
                                          try clear p28
                                          try clear q28
                                          try clear hx28
                                          try clear hf28
                                          try clear c31
                                          try clear c31b0
                                          try clear c31b1
                                          try clear c31b2
                                          try clear c33
                                          try clear c33b0
                                          try clear c34
                                          try clear c34b0
                                          try clear c39
                                          try clear c39b0
                                          try clear c39b1
                                          try clear c40
                                          try clear c40b0
                                          try clear c41
                                          try clear c41b0
                                          try clear p42
                                          try clear q42
                                          try clear hx42
                                          try clear hf42
                                          try clear hcv49
                                          try clear hcv51
                                          try clear hcv53
                                          try clear c55
                                          try clear c55b0
                                          try clear c55b1
                                          try clear c56
                                          try clear c56b0
                                          try clear c56b1
                                          try clear c57
                                          try clear c57b0
                                          try clear c58
                                          try clear c58b0
                                          try clear c59
                                          try clear c59b0
                                          try clear c59b1
                                          try clear c60
                                          try clear c60b0
                                          try clear c60b1
                                          try clear c61
                                          try clear c61b0
                                          try clear c61b1
                                          try clear c62
                                          try clear c62b0
                                          try clear c62b1
                                          try clear c64
                                          try clear c64b0
                                          try clear p64
                                          try clear c66
                                          try clear c66b0
                                          try clear c67
                                          try clear c67b0
                                          try clear c67b1
                                          try clear hx136_0
                                          try clear hx153_0
                                          try clear hx21_0
                                          try clear hx28_0
                                          try clear hx42_0
                                          try clear p1
                                          try clear p13
                                          try clear p136
                                          try clear p153
                                          try clear p2
                                          try clear p21
                                          try clear p28
                                          try clear p4
                                          try clear p42
                                          try clear p6
                                          try clear q1
                                          try clear q13
                                          try clear q136
                                          try clear q153
                                          try clear q2
                                          try clear q21
                                          try clear q28
                                          try clear q4
                                          try clear q42
                                          obtain ⟨kq, x133_62, rfl, HA, HJ62, HB⟩ := hcut
                                          cases kq with
                                          | zero => exact absurd HA.out (by simp [entaillaw12_LineBounds.j4])
                                          | succ kj62 =>
                                            have H := HA.out
                                            clear HA
                                            simp only [entaillaw12_LineBounds.j4] at H
                                            have HC68 := Aside0.mk H
                                            clear H
                                            go_upto_if 133 with (fail)
                                            go_cut [23] (fun v23 wc => ∃ (kq : Nat) (x23_67 : Bool), v23 = .bool x23_67 ∧ Aside0 (entaillaw12_LineBounds.j5 kq ji5 ji8 x3_34 t140 t145 t149 t150 x23_67 = some r) ∧ Aside0 (kq ≤ kj62) ∧ Aside0 (Below w.heap.size w wc))
                                            case first =>
                                              have H := HC68.out
                                              clear HC68
                                              by_cases c69 : x133_62 = true
                                              · subst c69
                                                have H1 : (entaillaw12_LineBounds.j5 kj62 ji5 ji8 x3_34 t140 t145 t149 t150 true) = some r := by rw [if_pos rfl] at H; exact H
                                                clear H
                                                have H := H1
                                                clear H1
                                                have H' := Aside0.mk H
                                                clear H
                                                go_wp2
                                                go_meet
                                                case rel => exact ⟨_, (true), (by first | rfl | (simp; done) | (simp [*]; done)), H', ⟨by have := HK1.out; have := HK2.out; have := HJ34.out; have := HJ45.out; have := HJ62.out; first | omega | exact Nat.le_refl _⟩, ⟨by repeat (first | (with_reducible first | exact HB.out | apply below_alloc | apply pw_below_drewN | apply below_drew1) | exact HB.out)⟩⟩
                                              · replace c69 := Bool.eq_false_iff.mpr c69
                                                subst c69
                                                have H1 : (entaillaw12_LineBounds.j5 kj62 ji5 ji8 x3_34 t140 t145 t149 t150 x23_45) = some r := by rw [if_neg (show ¬ (false = true) by decide)] at H; exact H
                                                clear H
                                                have H := H1
                                                clear H1
                                                have H' := Aside0.mk H
                                                clear H
                                                go_wp2
                                                go_meet
                                                case rel => exact ⟨_, (x23_45), (by first | rfl | (simp; done) | (simp [*]; done)), H', ⟨by have := HK1.out; have := HK2.out; have := HJ34.out; have := HJ45.out; have := HJ62.out; first | omega | exact Nat.le_refl _⟩, ⟨by repeat (first | (with_reducible first | exact HB.out | apply below_alloc | apply pw_below_drewN | apply below_drew1) | exact HB.out)⟩⟩
                                            case rest =>
                                              clear HC68
                                              try clear c1
                                              try clear p1
                                              try clear q1
                                              try clear hx1
                                              try clear c2
                                              try clear p2
                                              try clear q2
                                              try clear hx2
                                              try clear c3
                                              try clear c4
                                              try clear p4
                                              try clear q4
                                              try clear hx4
                                              try clear hcv4
                                              try clear hf4
                                              try clear c5
                                              try clear hcv5
                                              try clear c6
                                              try clear c6b0
                                              try clear c6b1
                                              try clear p6
                                              try clear c7
                                              try clear c7b0
                                              try clear c7b1
                                              try clear c9
                                              try clear c9b0
                                              try clear c9b1
                                              try clear c10
                                              try clear c10b0
                                              try clear c10b1
                                              try clear p13
                                              try clear q13
                                              try clear hx13
                                              try clear p15
                                              try clear q15
                                              try clear hx15
                                              try clear c18
                                              try clear c18b0
                                              try clear c19
                                              try clear c19b0
                                              try clear c20
                                              try clear c20b0
                                              try clear p21
                                              try clear q21
                                              try clear hx21
                                              try clear hf21
                                              try clear c25
                                              try clear c25b0
                                              try clear c26
                                              try clear c26b0
                                              try clear c27
                                              try clear c27b0
                                              try clear p28
                                              try clear q28
                                              try clear hx28
                                              try clear hf28
                                              try clear c31
                                              try clear c31b0
                                              try clear c31b1
                                              try clear c31b2
                                              try clear c33
                                              try clear c33b0
                                              try clear c34
                                              try clear c34b0
                                              try clear c39
                                              try clear c39b0
                                              try clear c39b1
                                              try clear c40
                                              try clear c40b0
                                              try clear c41
                                              try clear c41b0
                                              try clear p42
                                              try clear q42
                                              try clear hx42
                                              try clear hf42
                                              try clear hcv49
                                              try clear hcv51
                                              try clear hcv53
                                              try clear c55
                                              try clear c55b0
                                              try clear c55b1
                                              try clear c56
                                              try clear c56b0
                                              try clear c56b1
                                              try clear c57
                                              try clear c57b0
                                              try clear c58
                                              try clear c58b0
                                              try clear c59
                                              try clear c59b0
                                              try clear c59b1
                                              try clear c60
                                              try clear c60b0
                                              try clear c60b1
                                              try clear c61
                                              try clear c61b0
                                              try clear c61b1
                                              try clear c62
                                              try clear c62b0
                                              try clear c62b1
                                              try clear c64
                                              try clear c64b0
                                              try clear p64
                                              try clear c66
                                              try clear c66b0
                                              try clear c67
                                              try clear c67b0
                                              try clear c67b1
                                              try clear c69
                                              try clear hx136_0
                                              try clear hx153_0
                                              try clear hx21_0
                                              try clear hx28_0
                                              try clear hx42_0
                                              try clear p1
                                              try clear p13
                                              try clear p136
                                              try clear p15
                                              try clear p153
                                              try clear p2
                                              try clear p21
                                              try clear p28
                                              try clear p4
                                              try clear p42
                                              try clear p6
                                              try clear p64
                                              try clear q1
                                              try clear q13
                                              try clear q136
                                              try clear q15
                                              try clear q153
                                              try clear q2
                                              try clear q21
                                              try clear q28
                                              try clear q4
                                              try clear q42
                                              obtain ⟨kq, x23_67, rfl, HA, HJ67, HB⟩ := hcut
                                              cases kq with
                                              | zero => exact absurd HA.out (by simp [entaillaw12_LineBounds.j5])
                                              | succ kj67 =>
                                                have H := HA.out
                                                clear HA
                                                simp only [entaillaw12_LineBounds.j5] at H
                                                by_cases c70 : ((t140 == 8) == (decide (ji5 > 200000))) = true
                                                · rw [if_pos c70] at H
                                                  have c70b0 : ((t140 == 8) == (decide (ji5 > 200000))) = true := c70
                                                  (try (have c70b1 : decide ((t140 == 8) = (decide (ji5 > 200000))) = true := by simpa using c70))
                                                  (try (have c70b2 : ((t140 == 8) == (decide (ji5 > 200000))) = true := by simpa using c70))
                                                  clear c70
                                                  by_cases c71 : ((t145 == 8) == (decide (ji8 > 5000))) = true
                                                  · rw [if_pos c71] at H
                                                    have c71b0 : ((t145 == 8) == (decide (ji8 > 5000))) = true := c71
                                                    (try (have c71b1 : decide ((t145 == 8) = (decide (ji8 > 5000))) = true := by simpa using c71))
                                                    (try (have c71b2 : ((t145 == 8) == (decide (ji8 > 5000))) = true := by simpa using c71))
                                                    clear c71
                                                    by_cases c72 : ((t150 == 0) == x23_67) = true
                                                    · rw [if_pos c72] at H
                                                      have c72b0 : ((t150 == 0) == x23_67) = true := c72
                                                      (try (have c72b1 : decide ((t150 == 0) = x23_67) = true := by simpa using c72))
                                                      (try (have c72b2 : ((t150 == 0) == x23_67) = true := by simpa using c72))
                                                      clear c72
                                                      by_cases c73 : x23_67 = true
                                                      · subst c73
                                                        have H1 : ((entaillaw12_awake.f kj67).bind fun t154 => (some t154)) = some r := by rw [if_pos rfl] at H; exact H
                                                        clear H
                                                        have H := H1
                                                        clear H1
                                                        replace H := Option.bind_eq_some_iff.mp H
                                                        obtain ⟨t154, A740, H⟩ := H
                                                        replace H : (some t154) = some r := H
                                                        have A74 := Aside0.mk A740
                                                        clear A740
                                                        obtain rfl := Option.some.inj H
                                                        go_wp2_with (first | (go_at_call 8; (with_reducible refine (entaillaw12_awake.calls kj67  t154 _ A74.out).mono ?_); rintro e w75 ⟨rfl, hb⟩; have n0_ := Aside0.mk (below_step (by repeat (first | (with_reducible first | exact HB.out | apply below_alloc | apply pw_below_drewN | apply below_drew1) | exact HB.out)) hb); clear HB; have HB := n0_; clear n0_; (try clear hb); (try clear hb2); (try clear hk); (try clear hi)))
                                                        go_ret
                                                        exact ⟨by first | rfl | (simp [errW_none, errW_some] <;> rfl) | (simp only [← hji5, ← hji8, ← hji32]; first | rfl | (simp [errW_none, errW_some] <;> rfl)) | (simp [*, errW_none, errW_some] <;> rfl), by repeat (first | (with_reducible first | exact HB.out | apply below_alloc | apply pw_below_drewN | apply below_drew1) | exact HB.out)⟩
                                                      · replace c73 := Bool.eq_false_iff.mpr c73
                                                        subst c73
                                                        have H1 : (if t150 = 7 then (if t149 = x3_34 then ((entaillaw12_awake.f kj67).bind fun t155 => (some t155)) else (some false)) else (some false)) = some r := by rw [if_neg (show ¬ (false = true) by decide)] at H; exact H
                                                        clear H
                                                        have H := H1
                                                        clear H1
                                                        by_cases c76 : t150 = 7
                                                        · rw [if_pos c76] at H
                                                          have c76b0 : (t150 == 7) = true := beq_iff_eq.mpr c76
                                                          have c76b1 : (t150 != 7) = false := bne_eq_false_iff_eq.mpr c76
                                                          clear c76
                                                          by_cases c77 : t149 = x3_34
                                                          · rw [if_pos c77] at H
                                                            have c77b0 : (t149 == x3_34) = true := beq_iff_eq.mpr c77
                                                            have c77b1 : (t149 != x3_34) = false := bne_eq_false_iff_eq.mpr c77
                                                            clear c77
                                                            replace H := Option.bind_eq_some_iff.mp H
                                                            obtain ⟨t155, A780, H⟩ := H
                                                            replace H : (some t155) = some r := H
                                                            have A78 := Aside0.mk A780
                                                            clear A780
                                                            obtain rfl := Option.some.inj H
                                                            go_wp2_with (first | (go_at_call 8; (with_reducible refine (entaillaw12_awake.calls kj67  t155 _ A78.out).mono ?_); rintro e w79 ⟨rfl, hb⟩; have n0_ := Aside0.mk (below_step (by repeat (first | (with_reducible first | exact HB.out | apply below_alloc | apply pw_below_drewN | apply below_drew1) | exact HB.out)) hb); clear HB; have HB := n0_; clear n0_; (try clear hb); (try clear hb2); (try clear hk); (try clear hi)))
                                                            go_ret
                                                            exact ⟨by first | rfl | (simp [errW_none, errW_some] <;> rfl) | (simp only [← hji5, ← hji8, ← hji32]; first | rfl | (simp [errW_none, errW_some] <;> rfl)) | (simp [*, errW_none, errW_some] <;> rfl), by repeat (first | (with_reducible first | exact HB.out | apply below_alloc | apply pw_below_drewN | apply below_drew1) | exact HB.out)⟩
                                                          · rw [if_neg c77] at H
                                                            have c77b0 : (t149 == x3_34) = false := beq_eq_false_iff_ne.mpr c77
                                                            have c77b1 : (t149 != x3_34) = true := bne_iff_ne.mpr c77
                                                            obtain rfl := Option.some.inj H
                                                            go_wp2
                                                            go_ret
                                                            exact ⟨by first | rfl | (simp [errW_none, errW_some] <;> rfl) | (simp only [← hji5, ← hji8, ← hji32]; first | rfl | (simp [errW_none, errW_some] <;> rfl)) | (simp [*, errW_none, errW_some] <;> rfl), by repeat (first | (with_reducible first | exact HB.out | apply below_alloc | apply pw_below_drewN | apply below_drew1) | exact HB.out)⟩
                                                        · rw [if_neg c76] at H
                                                          have c76b0 : (t150 == 7) = false := beq_eq_false_iff_ne.mpr c76
                                                          have c76b1 : (t150 != 7) = true := bne_iff_ne.mpr c76
                                                          obtain rfl := Option.some.inj H
                                                          go_wp2
                                                          go_ret
                                                          exact ⟨by first | rfl | (simp [errW_none, errW_some] <;> rfl) | (simp only [← hji5, ← hji8, ← hji32]; first | rfl | (simp [errW_none, errW_some] <;> rfl)) | (simp [*, errW_none, errW_some] <;> rfl), by repeat (first | (with_reducible first | exact HB.out | apply below_alloc | apply pw_below_drewN | apply below_drew1) | exact HB.out)⟩
                                                    · rw [if_neg c72] at H
                                                      have c72b0 : ((t150 == 0) == x23_67) = false := by simpa using c72
                                                      (try (have c72b1 : decide ((t150 == 0) = x23_67) = false := by simpa using c72))
                                                      (try (have c72b2 : ((t150 == 0) == x23_67) = false := by simpa using c72))
                                                      (try (have c72b3 : ¬ ((t150 == 0) = x23_67) := by simpa using c72))
                                                      clear c72
                                                      obtain rfl := Option.some.inj H
                                                      go_wp2
                                                      go_ret
                                                      exact ⟨by first | rfl | (simp [errW_none, errW_some] <;> rfl) | (simp only [← hji5, ← hji8, ← hji32]; first | rfl | (simp [errW_none, errW_some] <;> rfl)) | (simp [*, errW_none, errW_some] <;> rfl), by repeat (first | (with_reducible first | exact HB.out | apply below_alloc | apply pw_below_drewN | apply below_drew1) | exact HB.out)⟩
                                                  · rw [if_neg c71] at H
                                                    have c71b0 : ((t145 == 8) == (decide (ji8 > 5000))) = false := by simpa using c71
                                                    (try (have c71b1 : decide ((t145 == 8) = (decide (ji8 > 5000))) = false := by simpa using c71))
                                                    (try (have c71b2 : ((t145 == 8) == (decide (ji8 > 5000))) = false := by simpa using c71))
                                                    (try (have c71b3 : ¬ ((t145 == 8) = (decide (ji8 > 5000))) := by simpa using c71))
                                                    clear c71
                                                    obtain rfl := Option.some.inj H
                                                    go_wp2
                                                    go_ret
                                                    exact ⟨by first | rfl | (simp [errW_none, errW_some] <;> rfl) | (simp only [← hji5, ← hji8, ← hji32]; first | rfl | (simp [errW_none, errW_some] <;> rfl)) | (simp [*, errW_none, errW_some] <;> rfl), by repeat (first | (with_reducible first | exact HB.out | apply below_alloc | apply pw_below_drewN | apply below_drew1) | exact HB.out)⟩
                                                · rw [if_neg c70] at H
                                                  have c70b0 : ((t140 == 8) == (decide (ji5 > 200000))) = false := by simpa using c70
                                                  (try (have c70b1 : decide ((t140 == 8) = (decide (ji5 > 200000))) = false := by simpa using c70))
                                                  (try (have c70b2 : ((t140 == 8) == (decide (ji5 > 200000))) = false := by simpa using c70))
                                                  (try (have c70b3 : ¬ ((t140 == 8) = (decide (ji5 > 200000))) := by simpa using c70))
                                                  clear c70
                                                  obtain rfl := Option.some.inj H
                                                  go_wp2
                                                  go_ret
                                                  exact ⟨by first | rfl | (simp [errW_none, errW_some] <;> rfl) | (simp only [← hji5, ← hji8, ← hji32]; first | rfl | (simp [errW_none, errW_some] <;> rfl)) | (simp [*, errW_none, errW_some] <;> rfl), by repeat (first | (with_reducible first | exact HB.out | apply below_alloc | apply pw_below_drewN | apply below_drew1) | exact HB.out)⟩
                                  · rw [if_neg c41] at H
                                    exact absurd H (by simp)
                                · rw [if_neg c40] at H
                                  exact absurd H (by simp)
                          · rw [if_neg c34] at H
                            exact absurd H (by simp)
                        · rw [if_neg c33] at H
                          exact absurd H (by simp)
        · rw [if_neg c10] at H
          exact absurd H (by simp)
      · rw [if_neg c9] at H
        exact absurd H (by simp)
    · rw [if_neg c7] at H
      exact absurd H (by simp)
  · rw [if_neg c6] at H
    exact absurd H (by simp)

/-- THE ONE PURE STATEMENT of entaillaw12_LineBounds: yours. -/
def entaillaw12_LineBounds.Pure : Prop := ∀ (a0 : Int) (a1 : Int) (a2 : Int) (a3 : Int), (Lit.int .i64 a0).wf = true → (Lit.int .i64 a1).wf = true → (Lit.int .u8 a2).wf = true → (Lit.int .i64 a3).wf = true → ∃ k, entaillaw12_LineBounds.f k a0 a1 a2 a3 = some true
theorem entaillaw12_LineBounds.walk (P : entaillaw12_LineBounds.Pure) (a0 : Int) (a1 : Int) (a2 : Int) (a3 : Int) (w : World) (w0 : (Lit.int .i64 a0).wf = true) (w1 : (Lit.int .i64 a1).wf = true) (w2 : (Lit.int .u8 a2).wf = true) (w3 : (Lit.int .i64 a3).wf = true) :
    Calls Tryd.prog 6 #[.int .i64 a0, .int .i64 a1, .int .u8 a2, .int .i64 a3] w fun e w' => e = .returned (.bool true) ∧ Below w.heap.size w w' := by
  obtain ⟨k, h⟩ := P a0 a1 a2 a3 w0 w1 w2 w3
  refine (entaillaw12_LineBounds.calls k a0 a1 a2 a3 true w h).mono ?_
  rintro e w' ⟨rfl, hd⟩
  exact ⟨rfl, hd⟩

end Go.Proofs.YtamgobcahgcejaaDoor.GB
