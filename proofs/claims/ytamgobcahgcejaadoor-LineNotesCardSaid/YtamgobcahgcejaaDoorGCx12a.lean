-- Written by gprint.py, a program of this session's: the kit's printer over contracts that were proved by hand. Lean checks it.
import Derived.Test.YtamgobcahgcejaaDoorGCx0
import Derived.Test.YtamgobcahgcejaaDoorGCx8
import Derived.Test.YtamgobcahgcejaaDoorGCx11
namespace Go.Proofs.YtamgobcahgcejaaDoor.GC
open Go.RowKit Go.Proofs.YtamgobcahgcejaaDoorW.PrintWords Go.Proofs.YtamgobcahgcejaaDoorW.PrintLast Go.Proofs.YtamgobcahgcejaaDoorW.PrintMore
attribute [local go_sem] max2_int min2_int max_two min_two max_three min_three max_four min_four   -- for this text's walks alone
set_option linter.unusedVariables false
set_option linter.unusedSimpArgs false

/-- Short names, for a shorter text. -/
abbrev bT : Bool := true
abbrev bF : Bool := false
theorem qA {α : Type} {l : List α} {i : Nat} {a : α} : l.toArray.setIfInBounds i a = (l.set i a).toArray := by simp
theorem qB {α : Type} {x : α} {l : List α} {a : α} : (x :: l).set 0 a = a :: l := rfl
theorem qC {α : Type} {x : α} {l : List α} {n : Nat} {a : α} : (x :: l).set (n + 1) a = x :: l.set n a := rfl
/-! ### entaillaw12_LineNotes: function 3 -/
mutual
def entaillaw12_LineNotes.l0 : Nat → List Int → Int → ByteArray → Int → Int → Option (Bool)
  | 0, _, _, _, _, _ => none
  | k + 1, x0, x1, x5, x6, x7 => if x7 < (x0.length : Int) then (entaillaw12_LineNotes.j1 k x0 x1 x5 x6 x7 (decide (x7 < 10))) else (entaillaw12_LineNotes.j1 k x0 x1 x5 x6 x7 false)
def entaillaw12_LineNotes.j1 : Nat → List Int → Int → ByteArray → Int → Int → Bool → Option (Bool)
  | 0, _, _, _, _, _, _ => none
  | k + 1, x0, x1, x5, x6, x7, x25 => if x25 = true then ((some (([(⟨#[]⟩ : ByteArray), (⟨#[32]⟩ : ByteArray), (⟨#[9]⟩ : ByteArray), (⟨#[32, 32, 9]⟩ : ByteArray)] : List ByteArray) : List ByteArray)).bind fun y129 => (if 0 ≤ x7 then (if x7 < (x0.length : Int) then (if 0 ≤ (Go.bits .and .i64 ((rd x0 x7) / 16) 3) then (if (Go.bits .and .i64 ((rd x0 x7) / 16) 3) < (y129.length : Int) then (if x5.size + (rdOf ByteArray.empty y129 (Go.bits .and .i64 ((rd x0 x7) / 16) 3)).size ≤ 9223372036854775807 then ((some (([(⟨#[97]⟩ : ByteArray), (⟨#[98]⟩ : ByteArray), (⟨#[117, 115, 101, 114]⟩ : ByteArray), (⟨#[47, 120]⟩ : ByteArray), (⟨#[49, 35]⟩ : ByteArray)] : List ByteArray) : List ByteArray)).bind fun y134 => (if 0 ≤ (Int.tmod (Go.bits .and .i64 (rd x0 x7) 255) 5) then (if (Int.tmod (Go.bits .and .i64 (rd x0 x7) 255) 5) < (y134.length : Int) then (if (x5 ++ (rdOf ByteArray.empty y129 (Go.bits .and .i64 ((rd x0 x7) / 16) 3))).size + (rdOf ByteArray.empty y134 (Int.tmod (Go.bits .and .i64 (rd x0 x7) 255) 5)).size ≤ 9223372036854775807 then ((some (([(⟨#[32]⟩ : ByteArray), (⟨#[9]⟩ : ByteArray), (⟨#[32, 9, 32]⟩ : ByteArray)] : List ByteArray) : List ByteArray)).bind fun y139 => (if 0 ≤ (Int.tmod (Go.bits .and .i64 ((rd x0 x7) / 256) 255) 3) then (if (Int.tmod (Go.bits .and .i64 ((rd x0 x7) / 256) 255) 3) < (y139.length : Int) then (if ((x5 ++ (rdOf ByteArray.empty y129 (Go.bits .and .i64 ((rd x0 x7) / 16) 3))) ++ (rdOf ByteArray.empty y134 (Int.tmod (Go.bits .and .i64 (rd x0 x7) 255) 5))).size + (rdOf ByteArray.empty y139 (Int.tmod (Go.bits .and .i64 ((rd x0 x7) / 256) 255) 3)).size ≤ 9223372036854775807 then (entaillaw12_LineNotes.l0 k x0 x1 (((x5 ++ (rdOf ByteArray.empty y129 (Go.bits .and .i64 ((rd x0 x7) / 16) 3))) ++ (rdOf ByteArray.empty y134 (Int.tmod (Go.bits .and .i64 (rd x0 x7) 255) 5))) ++ (rdOf ByteArray.empty y139 (Int.tmod (Go.bits .and .i64 ((rd x0 x7) / 256) 255) 3))) (wrap64 (x6 + 1)) (wrap64 (x7 + 1))) else (none)) else (none)) else (none))) else (none)) else (none)) else (none))) else (none)) else (none)) else (none)) else (none)) else (none))) else ((some (([(⟨#[]⟩ : ByteArray), (⟨#[35, 32, 98, 32, 99]⟩ : ByteArray), (⟨#[10, 10]⟩ : ByteArray), (⟨#[32, 13, 10, 35, 32, 100, 13]⟩ : ByteArray)] : List ByteArray) : List ByteArray)).bind fun y144 => (if 0 ≤ (Go.bits .and .i64 (x1 / 4) 3) then (if (Go.bits .and .i64 (x1 / 4) 3) < (y144.length : Int) then (if x5.size + (rdOf ByteArray.empty y144 (Go.bits .and .i64 (x1 / 4) 3)).size ≤ 9223372036854775807 then ((line_Lines.f k (x5 ++ (rdOf ByteArray.empty y144 (Go.bits .and .i64 (x1 / 4) 3)))).bind fun bt148 => (if bt148.2.2 = 0 then (if x6 = 0 then (if (bt148.1.length : Int) = 0 then ((entaillaw12_awake.f k).bind fun t153 => (some t153)) else (some false)) else (if (bt148.1.length : Int) = 1 then (if 0 < (bt148.1.length : Int) then (if (((rd_T32 bt148.1 0).f1).length : Int) = x6 then (if 0 < (((rd_T32 bt148.1 0).f1).length : Int) then (entaillaw12_LineNotes.j2 k x0 (x5 ++ (rdOf ByteArray.empty y144 (Go.bits .and .i64 (x1 / 4) 3))) x6 bt148.1 (((rd_T32 bt148.1 0).f0) != ((rd_T34 ((rd_T32 bt148.1 0).f1) 0).f1))) else (none)) else (entaillaw12_LineNotes.j2 k x0 (x5 ++ (rdOf ByteArray.empty y144 (Go.bits .and .i64 (x1 / 4) 3))) x6 bt148.1 true)) else (none)) else (entaillaw12_LineNotes.j2 k x0 (x5 ++ (rdOf ByteArray.empty y144 (Go.bits .and .i64 (x1 / 4) 3))) x6 bt148.1 true))) else (some false))) else (none)) else (none)) else (none)))
def entaillaw12_LineNotes.j2 : Nat → List Int → ByteArray → Int → List (S32) → Bool → Option (Bool)
  | 0, _, _, _, _, _ => none
  | k + 1, x0, x5, x6, x8, x111 => if x111 = true then (some false) else (entaillaw12_LineNotes.l1 k x0 x5 x6 x8 0)
def entaillaw12_LineNotes.l1 : Nat → List Int → ByteArray → Int → List (S32) → Int → Option (Bool)
  | 0, _, _, _, _, _ => none
  | k + 1, x0, x5, x6, x8, x11 => if x11 < x6 then (if 0 < (x8.length : Int) then (if 0 ≤ x11 then (if x11 < (((rd_T32 x8 0).f1).length : Int) then ((some (([(⟨#[97]⟩ : ByteArray), (⟨#[98]⟩ : ByteArray), (⟨#[117, 115, 101, 114]⟩ : ByteArray), (⟨#[47, 120]⟩ : ByteArray), (⟨#[49, 35]⟩ : ByteArray)] : List ByteArray) : List ByteArray)).bind fun y161 => (if x11 < (x0.length : Int) then (if 0 ≤ (Int.tmod (Go.bits .and .i64 (rd x0 x11) 255) 5) then (if (Int.tmod (Go.bits .and .i64 (rd x0 x11) 255) 5) < (y161.length : Int) then (if ((rd_T34 ((rd_T32 x8 0).f1) x11).f0).toList = (rdOf ByteArray.empty y161 (Int.tmod (Go.bits .and .i64 (rd x0 x11) 255) 5)).toList then (if ((rd_T34 ((rd_T32 x8 0).f1) x11).f1) < 0 then (entaillaw12_LineNotes.j4 k x0 x5 x6 x8 x11 true) else (if (wrap64 (((rd_T34 ((rd_T32 x8 0).f1) x11).f1) + (((rd_T34 ((rd_T32 x8 0).f1) x11).f0).size : Int))) > (x5.size : Int) then (entaillaw12_LineNotes.j4 k x0 x5 x6 x8 x11 true) else (if 0 ≤ ((rd_T34 ((rd_T32 x8 0).f1) x11).f1) then (if ((rd_T34 ((rd_T32 x8 0).f1) x11).f1) ≤ (wrap64 (((rd_T34 ((rd_T32 x8 0).f1) x11).f1) + (((rd_T34 ((rd_T32 x8 0).f1) x11).f0).size : Int))) then (if (wrap64 (((rd_T34 ((rd_T32 x8 0).f1) x11).f1) + (((rd_T34 ((rd_T32 x8 0).f1) x11).f0).size : Int))) ≤ (x5.size : Int) then (entaillaw12_LineNotes.j4 k x0 x5 x6 x8 x11 ((x5.extract (((rd_T34 ((rd_T32 x8 0).f1) x11).f1) : Int).toNat ((wrap64 (((rd_T34 ((rd_T32 x8 0).f1) x11).f1) + (((rd_T34 ((rd_T32 x8 0).f1) x11).f0).size : Int))) : Int).toNat).toList != ((rd_T34 ((rd_T32 x8 0).f1) x11).f0).toList)) else (none)) else (none)) else (none)))) else (entaillaw12_LineNotes.j4 k x0 x5 x6 x8 x11 true)) else (none)) else (none)) else (none))) else (none)) else (none)) else (none)) else ((entaillaw12_awake.f k).bind fun t166 => (some t166))
def entaillaw12_LineNotes.j4 : Nat → List Int → ByteArray → Int → List (S32) → Int → Bool → Option (Bool)
  | 0, _, _, _, _, _, _ => none
  | k + 1, x0, x5, x6, x8, x11, x166 => if x166 = true then (some false) else (entaillaw12_LineNotes.l1 k x0 x5 x6 x8 (wrap64 (x11 + 1)))
end
def entaillaw12_LineNotes.f (k : Nat) (l0 : List Int) (a1 : Int) : Option (Bool) := (some (([(⟨#[]⟩ : ByteArray), (⟨#[35, 32, 97, 10]⟩ : ByteArray), (⟨#[13, 10]⟩ : ByteArray), (⟨#[32, 9, 10]⟩ : ByteArray)] : List ByteArray) : List ByteArray)).bind fun y125 => (if 0 ≤ (Go.bits .and .i64 a1 3) then (if (Go.bits .and .i64 a1 3) < (y125.length : Int) then (entaillaw12_LineNotes.l0 k l0 a1 (rdOf ByteArray.empty y125 (Go.bits .and .i64 a1 3)) 0 0) else (none)) else (none))
theorem entaillaw12_LineNotes.mono_l : ∀ k, (∀ y0 y1 y2 y3 y4, LeO (entaillaw12_LineNotes.l0 k y0 y1 y2 y3 y4) (entaillaw12_LineNotes.l0 (k + 1) y0 y1 y2 y3 y4)) ∧ (∀ y0 y1 y2 y3 y4 y5, LeO (entaillaw12_LineNotes.j1 k y0 y1 y2 y3 y4 y5) (entaillaw12_LineNotes.j1 (k + 1) y0 y1 y2 y3 y4 y5)) ∧ (∀ y0 y1 y2 y3 y4, LeO (entaillaw12_LineNotes.j2 k y0 y1 y2 y3 y4) (entaillaw12_LineNotes.j2 (k + 1) y0 y1 y2 y3 y4)) ∧ (∀ y0 y1 y2 y3 y4, LeO (entaillaw12_LineNotes.l1 k y0 y1 y2 y3 y4) (entaillaw12_LineNotes.l1 (k + 1) y0 y1 y2 y3 y4)) ∧ (∀ y0 y1 y2 y3 y4 y5, LeO (entaillaw12_LineNotes.j4 k y0 y1 y2 y3 y4 y5) (entaillaw12_LineNotes.j4 (k + 1) y0 y1 y2 y3 y4 y5))
  | 0 => ⟨fun _ _ _ _ _ r h => by simp [entaillaw12_LineNotes.l0] at h, fun _ _ _ _ _ _ r h => by simp [entaillaw12_LineNotes.j1] at h, fun _ _ _ _ _ r h => by simp [entaillaw12_LineNotes.j2] at h, fun _ _ _ _ _ r h => by simp [entaillaw12_LineNotes.l1] at h, fun _ _ _ _ _ _ r h => by simp [entaillaw12_LineNotes.j4] at h⟩
  | k + 1 => by
    obtain ⟨ih0, ih1, ih2, ih3, ih4⟩ := entaillaw12_LineNotes.mono_l k
    refine ⟨?_, ?_, ?_, ?_, ?_⟩
    · intro y0 y1 y2 y3 y4
      unfold entaillaw12_LineNotes.l0
      repeat' first
      | (with_reducible exact ih0 _ _ _ _ _)
      | (with_reducible exact ih1 _ _ _ _ _ _)
      | (with_reducible exact ih2 _ _ _ _ _)
      | (with_reducible exact ih3 _ _ _ _ _)
      | (with_reducible exact ih4 _ _ _ _ _ _)
      | (with_reducible exact entaillaw12_awake.mono _)
      | (with_reducible exact line_Lines.mono _ _)
      | (with_reducible exact LeO.refl _)
      | (with_reducible exact LeO.none _)
      | (with_reducible refine LeO.ite ?_ ?_)
      | (with_reducible refine LeO.bind ?_ (fun _ => ?_))
      | exact ih0 _ _ _ _ _
      | exact ih1 _ _ _ _ _ _
      | exact ih2 _ _ _ _ _
      | exact ih3 _ _ _ _ _
      | exact ih4 _ _ _ _ _ _
      | exact entaillaw12_awake.mono _
      | exact line_Lines.mono _ _
      | exact LeO.none _
      | refine LeO.ite ?_ ?_
      | refine LeO.bind ?_ (fun _ => ?_)
    · intro y0 y1 y2 y3 y4 y5
      unfold entaillaw12_LineNotes.j1
      repeat' first
      | (with_reducible exact ih0 _ _ _ _ _)
      | (with_reducible exact ih1 _ _ _ _ _ _)
      | (with_reducible exact ih2 _ _ _ _ _)
      | (with_reducible exact ih3 _ _ _ _ _)
      | (with_reducible exact ih4 _ _ _ _ _ _)
      | (with_reducible exact entaillaw12_awake.mono _)
      | (with_reducible exact line_Lines.mono _ _)
      | (with_reducible exact LeO.refl _)
      | (with_reducible exact LeO.none _)
      | (with_reducible refine LeO.ite ?_ ?_)
      | (with_reducible refine LeO.bind ?_ (fun _ => ?_))
      | exact ih0 _ _ _ _ _
      | exact ih1 _ _ _ _ _ _
      | exact ih2 _ _ _ _ _
      | exact ih3 _ _ _ _ _
      | exact ih4 _ _ _ _ _ _
      | exact entaillaw12_awake.mono _
      | exact line_Lines.mono _ _
      | exact LeO.none _
      | refine LeO.ite ?_ ?_
      | refine LeO.bind ?_ (fun _ => ?_)
    · intro y0 y1 y2 y3 y4
      unfold entaillaw12_LineNotes.j2
      repeat' first
      | (with_reducible exact ih0 _ _ _ _ _)
      | (with_reducible exact ih1 _ _ _ _ _ _)
      | (with_reducible exact ih2 _ _ _ _ _)
      | (with_reducible exact ih3 _ _ _ _ _)
      | (with_reducible exact ih4 _ _ _ _ _ _)
      | (with_reducible exact entaillaw12_awake.mono _)
      | (with_reducible exact line_Lines.mono _ _)
      | (with_reducible exact LeO.refl _)
      | (with_reducible exact LeO.none _)
      | (with_reducible refine LeO.ite ?_ ?_)
      | (with_reducible refine LeO.bind ?_ (fun _ => ?_))
      | exact ih0 _ _ _ _ _
      | exact ih1 _ _ _ _ _ _
      | exact ih2 _ _ _ _ _
      | exact ih3 _ _ _ _ _
      | exact ih4 _ _ _ _ _ _
      | exact entaillaw12_awake.mono _
      | exact line_Lines.mono _ _
      | exact LeO.none _
      | refine LeO.ite ?_ ?_
      | refine LeO.bind ?_ (fun _ => ?_)
    · intro y0 y1 y2 y3 y4
      unfold entaillaw12_LineNotes.l1
      repeat' first
      | (with_reducible exact ih0 _ _ _ _ _)
      | (with_reducible exact ih1 _ _ _ _ _ _)
      | (with_reducible exact ih2 _ _ _ _ _)
      | (with_reducible exact ih3 _ _ _ _ _)
      | (with_reducible exact ih4 _ _ _ _ _ _)
      | (with_reducible exact entaillaw12_awake.mono _)
      | (with_reducible exact line_Lines.mono _ _)
      | (with_reducible exact LeO.refl _)
      | (with_reducible exact LeO.none _)
      | (with_reducible refine LeO.ite ?_ ?_)
      | (with_reducible refine LeO.bind ?_ (fun _ => ?_))
      | exact ih0 _ _ _ _ _
      | exact ih1 _ _ _ _ _ _
      | exact ih2 _ _ _ _ _
      | exact ih3 _ _ _ _ _
      | exact ih4 _ _ _ _ _ _
      | exact entaillaw12_awake.mono _
      | exact line_Lines.mono _ _
      | exact LeO.none _
      | refine LeO.ite ?_ ?_
      | refine LeO.bind ?_ (fun _ => ?_)
    · intro y0 y1 y2 y3 y4 y5
      unfold entaillaw12_LineNotes.j4
      repeat' first
      | (with_reducible exact ih0 _ _ _ _ _)
      | (with_reducible exact ih1 _ _ _ _ _ _)
      | (with_reducible exact ih2 _ _ _ _ _)
      | (with_reducible exact ih3 _ _ _ _ _)
      | (with_reducible exact ih4 _ _ _ _ _ _)
      | (with_reducible exact entaillaw12_awake.mono _)
      | (with_reducible exact line_Lines.mono _ _)
      | (with_reducible exact LeO.refl _)
      | (with_reducible exact LeO.none _)
      | (with_reducible refine LeO.ite ?_ ?_)
      | (with_reducible refine LeO.bind ?_ (fun _ => ?_))
      | exact ih0 _ _ _ _ _
      | exact ih1 _ _ _ _ _ _
      | exact ih2 _ _ _ _ _
      | exact ih3 _ _ _ _ _
      | exact ih4 _ _ _ _ _ _
      | exact entaillaw12_awake.mono _
      | exact line_Lines.mono _ _
      | exact LeO.none _
      | refine LeO.ite ?_ ?_
      | refine LeO.bind ?_ (fun _ => ?_)
theorem entaillaw12_LineNotes.mono : ∀ a0 a1 k, LeO (entaillaw12_LineNotes.f k a0 a1) (entaillaw12_LineNotes.f (k + 1) a0 a1) := by
  intro a0 a1 k
  obtain ⟨ih0, ih1, ih2, ih3, ih4⟩ := entaillaw12_LineNotes.mono_l k
  unfold entaillaw12_LineNotes.f
  repeat' first
      | (with_reducible exact ih0 _ _ _ _ _)
      | (with_reducible exact ih1 _ _ _ _ _ _)
      | (with_reducible exact ih2 _ _ _ _ _)
      | (with_reducible exact ih3 _ _ _ _ _)
      | (with_reducible exact ih4 _ _ _ _ _ _)
      | (with_reducible exact entaillaw12_awake.mono _)
      | (with_reducible exact line_Lines.mono _ _)
      | (with_reducible exact LeO.refl _)
      | (with_reducible exact LeO.none _)
      | (with_reducible refine LeO.ite ?_ ?_)
      | (with_reducible refine LeO.bind ?_ (fun _ => ?_))
      | exact ih0 _ _ _ _ _
      | exact ih1 _ _ _ _ _ _
      | exact ih2 _ _ _ _ _
      | exact ih3 _ _ _ _ _
      | exact ih4 _ _ _ _ _ _
      | exact entaillaw12_awake.mono _
      | exact line_Lines.mono _ _
      | exact LeO.none _
      | refine LeO.ite ?_ ?_
      | refine LeO.bind ?_ (fun _ => ?_)
def entaillaw12_LineNotes.T6 : Bool × List (List Nat × List Nat) := (true, [([], []), ([], []), ([], []), ([], []), ([2, 3], [2, 3]), ([4], [4]), ([5], [5]), ([6], [6]), ([1, 7], [1, 7]), ([8], [8]), ([0, 9], [0, 9]), ([], []), ([], []), ([], []), ([12, 13], [12, 13]), ([14], [14]), ([15], [15]), ([16], [16]), ([11, 17], [11, 17]), ([18], [18]), ([10, 19], [10, 19]), ([], []), ([], []), ([], []), ([22, 23], [22, 23]), ([24], [24]), ([25], [25]), ([26], [26]), ([27], [27]), ([21, 28], [21, 28]), ([29], [29]), ([20, 30], [20, 30]), ([31, 0, 1, 2, 3, 4, 5, 6, 7, 8, 9, 10, 11, 12, 13, 14, 15, 16, 17, 18, 19, 20, 21, 22, 23, 24, 25, 26, 27, 28, 29, 30, 31], [0, 31])])
def entaillaw12_LineNotes.B6 : List Nat := [0, 0, 0, 0, 12, 28, 60, 124, 254, 510, 1023, 0, 0, 0, 12288, 28672, 61440, 126976, 260096, 522240, 1048575, 0, 0, 0, 12582912, 29360128, 62914560, 130023424, 264241152, 534773760, 1071644672, 2147483647, 4294967295]
theorem entaillaw12_LineNotes.tab6 : rtab .any (opsOf Tryd.f3 6) = entaillaw12_LineNotes.T6 := by kernel_rfl
theorem entaillaw12_LineNotes.bits6 : waitsOk entaillaw12_LineNotes.T6.2 entaillaw12_LineNotes.B6 = true := by kernel_rfl
def entaillaw12_LineNotes.T14 : Bool × List (List Nat × List Nat) := (true, [([], []), ([0], [0]), ([1], [1]), ([2], [2]), ([3], [3]), ([4, 3], [3, 4]), ([5, 3], [3, 5]), ([6, 3], [3, 6]), ([7, 3], [3, 7]), ([3], [3]), ([8, 9, 3], [3, 8, 9]), ([3, 10], [3, 10]), ([11, 3], [11]), ([12], [12]), ([13, 12], [12, 13]), ([14, 12], [12, 14]), ([15, 12], [12, 15]), ([12], [12]), ([17, 12], [12, 17]), ([18, 12], [12, 18]), ([19, 12], [12, 19]), ([20, 12], [12, 20]), ([21, 12], [12, 21]), ([22, 12], [12, 22]), ([16, 23, 12], [12, 16, 23]), ([12, 24], [12, 24])])
def entaillaw12_LineNotes.B14 : List Nat := [0, 1, 3, 7, 15, 31, 63, 127, 255, 15, 1023, 2047, 4095, 8191, 16383, 32767, 65535, 8191, 139263, 401407, 925695, 1974271, 4071423, 8265727, 16777215, 33554431]
theorem entaillaw12_LineNotes.tab14 : rtab .any (opsOf Tryd.f3 14) = entaillaw12_LineNotes.T14 := by kernel_rfl
theorem entaillaw12_LineNotes.bits14 : waitsOk entaillaw12_LineNotes.T14.2 entaillaw12_LineNotes.B14 = true := by kernel_rfl
def entaillaw12_LineNotes.T20 : Bool × List (List Nat × List Nat) := (true, [([], []), ([0], [0]), ([], []), ([], []), ([], []), ([3, 4], [3, 4]), ([5], [5]), ([6], [6]), ([7], [7]), ([2, 8], [2, 8]), ([9], [9]), ([1, 10], [1, 10]), ([11], [11]), ([12], [12]), ([13, 12], [12, 13]), ([14, 12], [12, 14]), ([12, 15], [12, 15]), ([16, 12], [16]), ([17], [17]), ([18, 17], [17, 18]), ([17], [17]), ([20, 17], [17, 20]), ([21, 17], [17, 21]), ([19, 22, 17], [17, 19, 22]), ([17], [17]), ([24, 17], [17, 24]), ([23, 25, 17], [17, 23, 25]), ([17, 26], [17, 26]), ([27, 17], [27]), ([28], [28]), ([28], [28]), ([30, 28], [28, 30]), ([28], [28]), ([32, 28], [28, 32]), ([28], [28]), ([34, 28], [28, 34]), ([35, 28], [28, 35]), ([33, 36, 28], [28, 33, 36]), ([29, 31, 37, 28], [28, 29, 31, 37]), ([28], [28]), ([39, 28], [28, 39]), ([38, 40, 28], [28, 38, 40]), ([28, 41], [28, 41])])
def entaillaw12_LineNotes.B20 : List Nat := [0, 1, 0, 0, 0, 24, 56, 120, 248, 508, 1020, 2047, 4095, 8191, 16383, 32767, 65535, 131071, 262143, 524287, 262143, 1310719, 3407871, 8388607, 262143, 17039359, 67108863, 134217727, 268435455, 536870911, 536870911, 1610612735, 536870911, 4831838207, 536870911, 17716740095, 52076478463, 133680857087, 274877906943, 536870911, 550292684799, 2199023255551, 4398046511103]
theorem entaillaw12_LineNotes.tab20 : rtab .any (opsOf Tryd.f3 20) = entaillaw12_LineNotes.T20 := by kernel_rfl
theorem entaillaw12_LineNotes.bits20 : waitsOk entaillaw12_LineNotes.T20.2 entaillaw12_LineNotes.B20 = true := by kernel_rfl
end Go.Proofs.YtamgobcahgcejaaDoor.GC
