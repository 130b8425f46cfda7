-- Written by gprint.py, a program of this session's: the kit's printer over contracts that were proved by hand. Lean checks it.
import Derived.Test.YtppndhbeglcioaaCutB
namespace Go.Proofs.Ytppndhbeglcioaa.GA
open Go.RowKit Go.Proofs.YtppndhbeglcioaaW.PrintWords Go.Proofs.YtppndhbeglcioaaW.PrintLast Go.Proofs.YtppndhbeglcioaaW.PrintMore
attribute [local go_sem] max2_int min2_int max_two min_two max_three min_three max_four min_four   -- for this text's walks alone
set_option linter.unusedVariables false
set_option linter.unusedSimpArgs false

/-! ### entaillaw24_Ask: function 8 -/
def entaillaw24_Ask.f (a0 : Int) : Option (Bool × ByteArray × ByteArray × ByteArray) := (some (([(⟨#[117]⟩ : ByteArray), (⟨#[118]⟩ : ByteArray), (⟨#[119]⟩ : ByteArray), (⟨#[120]⟩ : ByteArray)] : List ByteArray) : List ByteArray)).bind fun y333 => (if 0 ≤ (Go.bits .and .i64 a0 3) then (if (Go.bits .and .i64 a0 3) < (y333.length : Int) then ((some (([(⟨#[103, 101, 116]⟩ : ByteArray), (⟨#[103, 101, 116, 97, 108, 108]⟩ : ByteArray), (⟨#[112, 117, 116]⟩ : ByteArray), (⟨#[108, 105, 115, 116]⟩ : ByteArray), (⟨#[122]⟩ : ByteArray)] : List ByteArray) : List ByteArray)).bind fun y337 => (if 0 ≤ (Int.tmod (Go.bits .and .i64 (a0 / 4) 255) 5) then (if (Int.tmod (Go.bits .and .i64 (a0 / 4) 255) 5) < (y337.length : Int) then ((some (([(⟨#[97]⟩ : ByteArray), (⟨#[97, 98]⟩ : ByteArray), (⟨#[98]⟩ : ByteArray), (⟨#[99]⟩ : ByteArray)] : List ByteArray) : List ByteArray)).bind fun y341 => (if 0 ≤ (Go.bits .and .i64 (a0 / 1024) 3) then (if (Go.bits .and .i64 (a0 / 1024) 3) < (y341.length : Int) then (some (false, rdOf ByteArray.empty y333 (Go.bits .and .i64 a0 3), rdOf ByteArray.empty y337 (Int.tmod (Go.bits .and .i64 (a0 / 4) 255) 5), rdOf ByteArray.empty y341 (Go.bits .and .i64 (a0 / 1024) 3))) else (none)) else (none))) else (none)) else (none))) else (none)) else (none))
def entaillaw24_Ask.T1 : Bool × List (List Nat × List Nat) := (true, [([], []), ([], []), ([1], [1]), ([0, 2], [0, 2]), ([3], [3]), ([], []), ([], []), ([6], [6]), ([7], [7]), ([8], [8]), ([5, 9], [5, 9]), ([10], [10]), ([], []), ([], []), ([13], [13]), ([14], [14]), ([12, 15], [12, 15]), ([16], [16]), ([4, 11, 17], [4, 11, 17]), ([18, 0, 1, 2, 3, 4, 5, 6, 7, 8, 9, 10, 11, 12, 13, 14, 15, 16, 17, 18], [18])])
def entaillaw24_Ask.B1 : List Nat := [0, 0, 2, 7, 15, 0, 0, 64, 192, 448, 992, 2016, 0, 0, 8192, 24576, 61440, 126976, 262143, 524287]
theorem entaillaw24_Ask.tab1 : rtab .any (opsOf Try.f8 1) = entaillaw24_Ask.T1 := by kernel_rfl
theorem entaillaw24_Ask.bits1 : waitsOk entaillaw24_Ask.T1.2 entaillaw24_Ask.B1 = true := by kernel_rfl
set_option maxHeartbeats 8000000 in
set_option maxRecDepth 100000 in
theorem entaillaw24_Ask.calls (a0 : Int) (r1 : Bool) (r2 : ByteArray) (r3 : ByteArray) (r4 : ByteArray) (w : World) (h : entaillaw24_Ask.f a0 = some (r1, r2, r3, r4)) :
  Calls Try.prog 8 #[.int .i64 a0] w fun e w' => e = .returned (.agg #[.bool r1, .string r2, .string r3, .string r4]) ∧ Below w.heap.size w w' := by
 have hu31 := Try.underlying31
 have HB := Aside0.mk (Below.refl w.heap.size w)
 have H : ((some (([(⟨#[117]⟩ : ByteArray), (⟨#[118]⟩ : ByteArray), (⟨#[119]⟩ : ByteArray), (⟨#[120]⟩ : ByteArray)] : List ByteArray) : List ByteArray)).bind fun y333 => (if 0 ≤ (Go.bits .and .i64 a0 3) then (if (Go.bits .and .i64 a0 3) < (y333.length : Int) then ((some (([(⟨#[103, 101, 116]⟩ : ByteArray), (⟨#[103, 101, 116, 97, 108, 108]⟩ : ByteArray), (⟨#[112, 117, 116]⟩ : ByteArray), (⟨#[108, 105, 115, 116]⟩ : ByteArray), (⟨#[122]⟩ : ByteArray)] : List ByteArray) : List ByteArray)).bind fun y337 => (if 0 ≤ (Int.tmod (Go.bits .and .i64 (a0 / 4) 255) 5) then (if (Int.tmod (Go.bits .and .i64 (a0 / 4) 255) 5) < (y337.length : Int) then ((some (([(⟨#[97]⟩ : ByteArray), (⟨#[97, 98]⟩ : ByteArray), (⟨#[98]⟩ : ByteArray), (⟨#[99]⟩ : ByteArray)] : List ByteArray) : List ByteArray)).bind fun y341 => (if 0 ≤ (Go.bits .and .i64 (a0 / 1024) 3) then (if (Go.bits .and .i64 (a0 / 1024) 3) < (y341.length : Int) then (some (false, rdOf ByteArray.empty y333 (Go.bits .and .i64 a0 3), rdOf ByteArray.empty y337 (Int.tmod (Go.bits .and .i64 (a0 / 4) 255) 5), rdOf ByteArray.empty y341 (Go.bits .and .i64 (a0 / 1024) 3))) else (none)) else (none))) else (none)) else (none))) else (none)) else (none))) = some (r1, r2, r3, r4) := h
 clear h
 obtain ⟨y333, hy333, H⟩ := qL H
 have Ny333 := Aside0.mk hy333
 clear hy333
 by_cases c2 : 0 ≤ (Go.bits .and .i64 a0 3)
 rotate_left
 ·rw [if_neg c2] at H
  exact absurd H (by simp)
 rw [if_pos c2] at H
 have c2b0 : decide (0 ≤ (Go.bits .and .i64 a0 3)) = true := decide_eq_true c2
 clear c2
 by_cases c3 : (Go.bits .and .i64 a0 3) < (y333.length : Int)
 rotate_left
 ·rw [if_neg c3] at H
  exact absurd H (by simp)
 rw [if_pos c3] at H
 have c3b0 : decide ((Go.bits .and .i64 a0 3) < (y333.length : Int)) = true := decide_eq_true c3
 clear c3
 obtain ⟨y337, hy337⟩ : ∃ y_ : List ByteArray, y_ = (([(⟨#[103, 101, 116]⟩ : ByteArray), (⟨#[103, 101, 116, 97, 108, 108]⟩ : ByteArray), (⟨#[112, 117, 116]⟩ : ByteArray), (⟨#[108, 105, 115, 116]⟩ : ByteArray), (⟨#[122]⟩ : ByteArray)] : List ByteArray)) := ⟨_, rfl⟩
 replace H : (if 0 ≤ (Int.tmod (Go.bits .and .i64 (a0 / 4) 255) 5) then (if (Int.tmod (Go.bits .and .i64 (a0 / 4) 255) 5) < (y337.length : Int) then ((some (([(⟨#[97]⟩ : ByteArray), (⟨#[97, 98]⟩ : ByteArray), (⟨#[98]⟩ : ByteArray), (⟨#[99]⟩ : ByteArray)] : List ByteArray) : List ByteArray)).bind fun y341 => (if 0 ≤ (Go.bits .and .i64 (a0 / 1024) 3) then (if (Go.bits .and .i64 (a0 / 1024) 3) < (y341.length : Int) then (some (false, rdOf ByteArray.empty y333 (Go.bits .and .i64 a0 3), rdOf ByteArray.empty y337 (Int.tmod (Go.bits .and .i64 (a0 / 4) 255) 5), rdOf ByteArray.empty y341 (Go.bits .and .i64 (a0 / 1024) 3))) else (none)) else (none))) else (none)) else (none)) = some (r1, r2, r3, r4) := by first | (rw [hy337]; with_reducible exact H) | (have H2_ := (Option.bind_some _ _).symm.trans H; rw [hy337]; with_reducible exact H2_) | (have H2_ := (Option.bind_some _ _).symm.trans H; with_reducible exact H2_) | with_reducible exact H | (rw [hy337]; exact H) | exact H
 have Ny337 := Aside0.mk hy337
 clear hy337
 obtain ⟨ji4, hji4⟩ : ∃ j_ : Int, (Int.tmod (Go.bits .and .i64 (a0 / 4) 255) 5) = j_ := ⟨_, rfl⟩
 replace H : (if 0 ≤ (ji4) then (if (ji4) < (y337.length : Int) then ((some (([(⟨#[97]⟩ : ByteArray), (⟨#[97, 98]⟩ : ByteArray), (⟨#[98]⟩ : ByteArray), (⟨#[99]⟩ : ByteArray)] : List ByteArray) : List ByteArray)).bind fun y341 => (if 0 ≤ (Go.bits .and .i64 (a0 / 1024) 3) then (if (Go.bits .and .i64 (a0 / 1024) 3) < (y341.length : Int) then (some (false, rdOf ByteArray.empty y333 (Go.bits .and .i64 a0 3), rdOf ByteArray.empty y337 (ji4), rdOf ByteArray.empty y341 (Go.bits .and .i64 (a0 / 1024) 3))) else (none)) else (none))) else (none)) else (none)) = some (r1, r2, r3, r4) := by first | (rw [hji4] at H; exact H) | (simp only [hji4] at H ⊢; exact H)
 by_cases c5 : 0 ≤ (ji4)
 rotate_left
 ·rw [if_neg c5] at H
  exact absurd H (by simp)
 rw [if_pos c5] at H
 have c5b0 : decide (0 ≤ (ji4)) = true := decide_eq_true c5
 clear c5
 by_cases c6 : (ji4) < (y337.length : Int)
 rotate_left
 ·rw [if_neg c6] at H
  exact absurd H (by simp)
 rw [if_pos c6] at H
 have c6b0 : decide ((ji4) < (y337.length : Int)) = true := decide_eq_true c6
 clear c6
 obtain ⟨y341, hy341⟩ : ∃ y_ : List ByteArray, y_ = (([(⟨#[97]⟩ : ByteArray), (⟨#[97, 98]⟩ : ByteArray), (⟨#[98]⟩ : ByteArray), (⟨#[99]⟩ : ByteArray)] : List ByteArray)) := ⟨_, rfl⟩
 replace H : (if 0 ≤ (Go.bits .and .i64 (a0 / 1024) 3) then (if (Go.bits .and .i64 (a0 / 1024) 3) < (y341.length : Int) then (some (false, rdOf ByteArray.empty y333 (Go.bits .and .i64 a0 3), rdOf ByteArray.empty y337 (ji4), rdOf ByteArray.empty y341 (Go.bits .and .i64 (a0 / 1024) 3))) else (none)) else (none)) = some (r1, r2, r3, r4) := by first | (rw [hy341]; with_reducible exact H) | (have H2_ := (Option.bind_some _ _).symm.trans H; rw [hy341]; with_reducible exact H2_) | (have H2_ := (Option.bind_some _ _).symm.trans H; with_reducible exact H2_) | with_reducible exact H | (rw [hy341]; exact H) | exact H
 have Ny341 := Aside0.mk hy341
 clear hy341
 obtain ⟨ji7, hji7⟩ : ∃ j_ : Int, (Go.bits .and .i64 (a0 / 1024) 3) = j_ := ⟨_, rfl⟩
 replace H : (if 0 ≤ (ji7) then (if (ji7) < (y341.length : Int) then (some (false, rdOf ByteArray.empty y333 (Go.bits .and .i64 a0 3), rdOf ByteArray.empty y337 (ji4), rdOf ByteArray.empty y341 (ji7))) else (none)) else (none)) = some (r1, r2, r3, r4) := by first | (rw [hji7] at H; exact H) | (simp only [hji7] at H ⊢; exact H)
 by_cases c8 : 0 ≤ (ji7)
 rotate_left
 ·rw [if_neg c8] at H
  exact absurd H (by simp)
 rw [if_pos c8] at H
 have c8b0 : decide (0 ≤ (ji7)) = true := decide_eq_true c8
 clear c8
 by_cases c9 : (ji7) < (y341.length : Int)
 rotate_left
 ·rw [if_neg c9] at H
  exact absurd H (by simp)
 rw [if_pos c9] at H
 have c9b0 : decide ((ji7) < (y341.length : Int)) = true := decide_eq_true c9
 clear c9
 simp only [Option.some.injEq, Prod.mk.injEq] at H
 obtain ⟨rfl, rfl, rfl, rfl⟩ := H
 go_enter Try.func8, Try.ntmps8
 try go_wp2_with (first | ((with_reducible refine gate_dst (N := 2) rfl ?_); refine box_event ?hg (N := 2) ?hd (cs := #[.bool false, .string (⟨#[]⟩ : ByteArray), .string (⟨#[]⟩ : ByteArray), .string (⟨#[]⟩ : ByteArray)]) (t := 31) ?hr ?_; (case hd => rfl); (case hg => rfl); (case hr => first | (go_simp; done) | (go_simp; rfl)); intro gb332 hg w10 hbox hb; have BK332 := Aside0.mk (hbox); have GW332 := Aside0.mk ((by rw [hg]; exact (below_size (lb HB.out)) : w.heap.size ≤ gb332)); have GE332 := Aside0.mk ((by rw [hg]; exact (below_size (lb HB.out)) : w.heap.size ≤ gb332)); replace HB := Aside0.mk (below_step (lb HB.out) hb); clear hb hbox hg))
 have pi336 : (0 ≤ ((Go.bits .and .i64 a0 3) : Int)) = True := eq_true (of_decide_eq_true (by first | (with_reducible assumption) | assumption))
 have qi336 : ((Go.bits .and .i64 a0 3) < (y333.length : Int)) = True := eq_true (of_decide_eq_true (by first | (with_reducible assumption) | assumption))
 have pi340 : (0 ≤ ((ji4) : Int)) = True := eq_true (of_decide_eq_true (by first | (with_reducible assumption) | assumption))
 have qi340 : ((ji4) < (y337.length : Int)) = True := eq_true (of_decide_eq_true (by first | (with_reducible assumption) | assumption))
 have pi344 : (0 ≤ ((ji7) : Int)) = True := eq_true (of_decide_eq_true (by first | (with_reducible assumption) | assumption))
 have qi344 : ((ji7) < (y341.length : Int)) = True := eq_true (of_decide_eq_true (by first | (with_reducible assumption) | assumption))
 replace BK332 := Aside0.mk (blk_drew BK332.out)
 replace HB := Aside0.mk (below_drew1 HB.out)
 refine start_ (n := 20) (S := fun w' => True) (ds := []) #[bF,bF,bF,bF,bF,bF,bF,bF,bF,bF,bF,bF,bF,bF,bF,bF,bF,bF,bF,bF] (by kernel_rfl) rfl rfl trivial (fun hHeld => ?_); refine with_tabW entaillaw24_Ask.tab1 entaillaw24_Ask.bits1 (fun HT_ HW_ => ?_)
 generalize w10.drew = w11 at BK332 HB hHeld ⊢
 refine pure_ (i := 1) (N := some 4) (v := ?_) (a' := ?_) #[bF,bT,bF,bF,bF,bF,bF,bF,bF,bF,bF,bF,bF,bF,bF,bF,bF,bF,bF,bF] rfl rfl (any_of HT_.out (by kernel_rfl)) (fun _ _ _ h => h) (Or.inl ⟨by rfl, ?_⟩) ?_ ?_
 rotate_left
 ·intro w'
  go_simp
  with_reducible rfl
 rotate_left
 ·simp only [Act.put, qA, qB, qC, i64_w, i32_w]
  rfl
 refine pure_ (i := 6) (N := some 9) (v := ?_) (a' := ?_) #[bF,bT,bF,bF,bF,bF,bT,bF,bF,bF,bF,bF,bF,bF,bF,bF,bF,bF,bF,bF] rfl rfl (any_of HT_.out (by kernel_rfl)) (fun _ _ _ h => h) (Or.inl ⟨by rfl, ?_⟩) ?_ ?_
 rotate_left
 ·intro w'
  go_simp
  with_reducible rfl
 rotate_left
 ·simp only [Act.put, qA, qB, qC, i64_w, i32_w]
  rfl
 refine pure_ (i := 13) (N := some 16) (v := ?_) (a' := ?_) #[bF,bT,bF,bF,bF,bF,bT,bF,bF,bF,bF,bF,bF,bT,bF,bF,bF,bF,bF,bF] rfl rfl (any_of HT_.out (by kernel_rfl)) (fun _ _ _ h => h) (Or.inl ⟨by rfl, ?_⟩) ?_ ?_
 rotate_left
 ·intro w'
  go_simp
  with_reducible rfl
 rotate_left
 ·simp only [Act.put, qA, qB, qC, i64_w, i32_w]
  rfl
 refine inv_at [0, 2, 3, 4, 5, 7, 8, 9, 10, 11, 12, 14, 15, 16, 17, 18, 19] (fun a0_ b a w' => ∃ (v334 : Value) (adz_v334 : Addr) (v338 : Value) (adz_v338 : Addr) (v342 : Value) (adz_v342 : Addr) (m3_ : Value) (m10_ : Value) (m16_ : Value), a = putSel a0_ b [(0, 3, v334), (2, 5, .int .i64 (Go.bits .and .i64 a0 3)), (3, 6, m3_), (4, 7, .string (rdOf ByteArray.empty y333 (Go.bits .and .i64 a0 3))), (5, 8, v338), (7, 10, .int .i64 (a0 / 4)), (8, 11, .int .i64 (Go.bits .and .i64 (a0 / 4) 255)), (9, 12, .int .i64 ji4), (10, 13, m10_), (11, 14, .string (rdOf ByteArray.empty y337 (ji4))), (12, 15, v342), (14, 17, .int .i64 (a0 / 1024)), (15, 18, .int .i64 ji7), (16, 19, m16_), (17, 20, .string (rdOf ByteArray.empty y341 (ji7))), (18, 21, .agg #[.bool false, .string (rdOf ByteArray.empty y333 (Go.bits .and .i64 a0 3)), .string (rdOf ByteArray.empty y337 (ji4)), .string (rdOf ByteArray.empty y341 (ji7))])] ∧ (b 19 = false → w'.heap[gb332]? = some (.cells #[.bool false, .string (⟨#[]⟩ : ByteArray), .string (⟨#[]⟩ : ByteArray), .string (⟨#[]⟩ : ByteArray)] 31 (0, 0))) ∧ (Below w.heap.size w w') ∧ (b 0 = true → Kd.R Kd.string 9 w' w.heap.size (fun _ => True) v334 y333) ∧ (b 0 = true → ∃ c_, (v334 : Value) = .slice (some adz_v334) y333.length c_) ∧ (b 5 = true → Kd.R Kd.string 9 w' w.heap.size (fun _ => True) v338 y337) ∧ (b 5 = true → ∃ c_, (v338 : Value) = .slice (some adz_v338) y337.length c_) ∧ (b 12 = true → Kd.R Kd.string 9 w' w.heap.size (fun _ => True) v342 y341) ∧ (b 12 = true → ∃ c_, (v342 : Value) = .slice (some adz_v342) y341.length c_) ∧ (b 19 = true → w'.heap[gb332]? = some (.cells #[.bool false, .string (rdOf ByteArray.empty y333 (Go.bits .and .i64 a0 3)), .string (rdOf ByteArray.empty y337 (ji4)), .string (rdOf ByteArray.empty y341 (ji7))] 31 (0, 0))) ∧ (b 3 = true → (m3_ : Value) = .pointer (some (adz_v334.add ((Go.bits .and .i64 a0 3)).toNat))) ∧ (b 10 = true → (m10_ : Value) = .pointer (some (adz_v338.add ((ji4)).toNat))) ∧ (b 16 = true → (m16_ : Value) = .pointer (some (adz_v342.add ((ji7)).toNat)))) HT_.out HW_.out (by kernel_rfl) (by kernel_rfl) ?_ ?_ ?_
 ·exact ⟨.bool false, ⟨0, 0, none⟩, .bool false, ⟨0, 0, none⟩, .bool false, ⟨0, 0, none⟩, .bool false, .bool false, .bool false, by simp only [putSel, Bool.false_eq_true, if_false], fun _ => BK332.out, HB.out, fun h_ => absurd h_ (by decide), fun h_ => absurd h_ (by decide), fun h_ => absurd h_ (by decide), fun h_ => absurd h_ (by decide), fun h_ => absurd h_ (by decide), fun h_ => absurd h_ (by decide), fun h_ => absurd h_ (by decide), fun h_ => absurd h_ (by decide), fun h_ => absurd h_ (by decide), fun h_ => absurd h_ (by decide)⟩
 ·skip
  clear BK332 HB
  refine steps_cons ?_ ?_
  ·rintro b a w' ⟨v334, adz_v334, v338, adz_v338, v342, adz_v342, m3_, m10_, m16_, ha, Q_BK332, Q_HB, Q_HO335, Q_HA_HO335, Q_HO339, Q_HA_HO339, Q_HO343, Q_HA_HO343, Q_BK332_e19, Q_X3_, Q_X10_, Q_X16_⟩ hb_ hon hoff
   refine ⟨_, rfl, fun K hK => ?_⟩
   replace ha := Aside0.mk ha
   have BK332 := Aside0.mk (Q_BK332 (hoff 19 (by kernel_rfl)))
   have HB := Aside0.mk Q_HB
   refine Kd.R_lit_step Kd.string _ 9 ?hg (N := 3) ?hd (xs := ([(⟨#[117]⟩ : ByteArray), (⟨#[118]⟩ : ByteArray), (⟨#[119]⟩ : ByteArray), (⟨#[120]⟩ : ByteArray)] : List ByteArray)) (inner := [.string (⟨#[117]⟩ : ByteArray), .string (⟨#[118]⟩ : ByteArray), .string (⟨#[119]⟩ : ByteArray), .string (⟨#[120]⟩ : ByteArray)]) (ok := fun _ => True) (okp := fun _ => True) ?hr ?hp (fun _ hk => hk) trivial (Below.refl _ _) (Nat.le_refl _) (by simp) ?_; (case hd => rfl); (case hg => rfl); (case hr => first | (go_simp; done) | (go_simp; rfl)); (case hp => exact (Reps.one (show Kd.M Kd.string _ _ _ (⟨#[117]⟩ : ByteArray) [.string (⟨#[117]⟩ : ByteArray)] from rfl) (Reps.one (show Kd.M Kd.string _ _ _ (⟨#[118]⟩ : ByteArray) [.string (⟨#[118]⟩ : ByteArray)] from rfl) (Reps.one (show Kd.M Kd.string _ _ _ (⟨#[119]⟩ : ByteArray) [.string (⟨#[119]⟩ : ByteArray)] from rfl) (Reps.one (show Kd.M Kd.string _ _ _ (⟨#[120]⟩ : ByteArray) [.string (⟨#[120]⟩ : ByteArray)] from rfl) (Reps.none _ _))))))
   intro v334 w12 ho13 hb hg_ hnew_
   clear hg_ hnew_
   (first | rw [← Ny333.out] at ho13 | (simp only [Int.reduceToNat] at ho13; rw [← Ny333.out] at ho13))
   have n0_ := Aside0.mk (Kd.R_lower ho13 (below_size (lb1 HB.out GE332.out)))
   have n1_ := Aside0.mk (blk_below (g := gb332) (o := .cells #[.bool false, .string (⟨#[]⟩ : ByteArray), .string (⟨#[]⟩ : ByteArray), .string (⟨#[]⟩ : ByteArray)] 31 (0, 0)) (lk BK332.out) hb)
   have n2_ := Aside0.mk (below_step (lb1 HB.out GE332.out) hb)
   have z_HO339 := fun (h0_ : b 5 = true) => (show Kd.R Kd.string 9 w12 w.heap.size (fun _ => True) v338 y337 from by first | exact (Kd.R_elder' (by (with_reducible repeat (first | apply Kd.R_alloc | apply Kd.R_drewN | apply Kd.R_drew)); exact (Q_HO339 h0_)) (Kd.R_base ho13) hb) | exact Kd.R_mono (Kd.R_elder' (by (with_reducible repeat (first | apply Kd.R_alloc | apply Kd.R_drewN | apply Kd.R_drew)); exact (Q_HO339 h0_)) (Kd.R_base ho13) hb) (fun _ h_ => by first | trivial | exact h_ | exact h_.1))
   have z_HO343 := fun (h0_ : b 12 = true) => (show Kd.R Kd.string 9 w12 w.heap.size (fun _ => True) v342 y341 from by first | exact (Kd.R_elder' (by (with_reducible repeat (first | apply Kd.R_alloc | apply Kd.R_drewN | apply Kd.R_drew)); exact (Q_HO343 h0_)) (Kd.R_base ho13) hb) | exact Kd.R_mono (Kd.R_elder' (by (with_reducible repeat (first | apply Kd.R_alloc | apply Kd.R_drewN | apply Kd.R_drew)); exact (Q_HO343 h0_)) (Kd.R_base ho13) hb) (fun _ h_ => by first | trivial | exact h_ | exact h_.1))
   clear BK332
   clear HB
   have HO335 := n0_
   have BK332 := n1_
   have HB := n2_
   clear n0_ n1_ n2_
   clear hb ho13
   obtain ⟨Ao14, co14, eo14⟩ := Kd.R_slice HO335.out
   subst eo14
   obtain ⟨ado14, fo14, _⟩ := Kd.at_string (Kd.R_reads' HO335.out).2.2 0 (by decide) (by rw [Ny333.out]; simp)
   cases fo14
   refine hK.out _ _ ⟨.slice (some ado14) y333.length co14, ado14, v338, adz_v338, v342, adz_v342, m3_, m10_, m16_, (by rw [ha.out]; exact putSel_upk 0 hb_ rfl rfl rfl), fun _ => (lk BK332.out), (lb1 HB.out GE332.out), fun _ => (lR HO335.out), fun _ => ⟨_, rfl⟩, z_HO339, Q_HA_HO339, z_HO343, Q_HA_HO343, fun h0_ => absurd ((hoff 19 (by kernel_rfl)).symm.trans h0_) (by decide), fun h0_ => absurd ((hoff 3 (by kernel_rfl)).symm.trans h0_) (by decide), Q_X10_, Q_X16_⟩
  refine steps_cons ?_ ?_
  ·rintro b a w' ⟨v334, adz_v334, v338, adz_v338, v342, adz_v342, m3_, m10_, m16_, ha, Q_BK332, Q_HB, Q_HO335, Q_HA_HO335, Q_HO339, Q_HA_HO339, Q_HO343, Q_HA_HO343, Q_BK332_e19, Q_X3_, Q_X10_, Q_X16_⟩ hb_ hon hoff
   refine ⟨_, rfl, fun K hK => ?_⟩
   have e4 : a.tmps[4]? = some (.int .i64 a0) := by rw [ha]; exact (putSel_off rfl).trans rfl
   replace ha := Aside0.mk ha
   have BK332 := Aside0.mk (Q_BK332 (hoff 19 (by kernel_rfl)))
   have HB := Aside0.mk Q_HB
   refine value_ (w1 := w') (v := .int .i64 (Go.bits .and .i64 a0 3)) (by rfl) rfl ?_ ?_
   ·go_simp
    (try simp only [i64_w])
    try rfl
   refine hK.out _ _ ⟨v334, adz_v334, v338, adz_v338, v342, adz_v342, m3_, m10_, m16_, (by rw [ha.out]; exact putSel_upk 1 hb_ rfl rfl rfl), Q_BK332, Q_HB, Q_HO335, Q_HA_HO335, Q_HO339, Q_HA_HO339, Q_HO343, Q_HA_HO343, fun h0_ => absurd ((hoff 19 (by kernel_rfl)).symm.trans h0_) (by decide), fun h0_ => absurd ((hoff 3 (by kernel_rfl)).symm.trans h0_) (by decide), Q_X10_, Q_X16_⟩
  refine steps_cons ?_ ?_
  ·rintro b a w' ⟨v334, adz_v334, v338, adz_v338, v342, adz_v342, m3_, m10_, m16_, ha, Q_BK332, Q_HB, Q_HO335, Q_HA_HO335, Q_HO339, Q_HA_HO339, Q_HO343, Q_HA_HO343, Q_BK332_e19, Q_X3_, Q_X10_, Q_X16_⟩ hb_ hon hoff
   refine ⟨_, rfl, fun K hK => ?_⟩
   have e3 : a.tmps[3]? = some (v334) := by rw [ha]; exact putSel_on (e := (0, 3, v334)) 0 rfl rfl (hon 0 (by kernel_rfl)) rfl
   have e5 : a.tmps[5]? = some (.int .i64 (Go.bits .and .i64 a0 3)) := by rw [ha]; exact putSel_on (e := (2, 5, .int .i64 (Go.bits .and .i64 a0 3))) 1 rfl rfl (hon 2 (by kernel_rfl)) rfl
   replace ha := Aside0.mk ha
   have BK332 := Aside0.mk (Q_BK332 (hoff 19 (by kernel_rfl)))
   have HB := Aside0.mk Q_HB
   have HO335 := Aside0.mk (Q_HO335 (hon 0 (by kernel_rfl)))
   have HA_HO335 := Aside0.mk (Q_HA_HO335 (hon 0 (by kernel_rfl)))
   obtain ⟨c_, hv_⟩ := HA_HO335.out
   rw [hv_] at e3
   refine value_ (w1 := w') (v := .pointer (some (adz_v334.add ((Go.bits .and .i64 a0 3)).toNat))) (by rfl) rfl ?_ ?_
   ·go_simp
    (try simp only [i64_w])
    try rfl
   refine hK.out _ _ ⟨v334, adz_v334, v338, adz_v338, v342, adz_v342, (.pointer (some (adz_v334.add ((Go.bits .and .i64 a0 3)).toNat))), m10_, m16_, (by rw [ha.out]; exact putSel_upk 2 hb_ rfl rfl rfl), Q_BK332, Q_HB, Q_HO335, Q_HA_HO335, Q_HO339, Q_HA_HO339, Q_HO343, Q_HA_HO343, fun h0_ => absurd ((hoff 19 (by kernel_rfl)).symm.trans h0_) (by decide), fun _ => rfl, Q_X10_, Q_X16_⟩
  refine steps_cons ?_ ?_
  ·rintro b a w' ⟨v334, adz_v334, v338, adz_v338, v342, adz_v342, m3_, m10_, m16_, ha, Q_BK332, Q_HB, Q_HO335, Q_HA_HO335, Q_HO339, Q_HA_HO339, Q_HO343, Q_HA_HO343, Q_BK332_e19, Q_X3_, Q_X10_, Q_X16_⟩ hb_ hon hoff
   refine ⟨_, rfl, fun K hK => ?_⟩
   have e6 : a.tmps[6]? = some (m3_) := by rw [ha]; exact putSel_on (e := (3, 6, m3_)) 2 rfl rfl (hon 3 (by kernel_rfl)) rfl
   rw [Q_X3_ (hon 3 (by kernel_rfl))] at e6
   replace ha := Aside0.mk ha
   have BK332 := Aside0.mk (Q_BK332 (hoff 19 (by kernel_rfl)))
   have HB := Aside0.mk Q_HB
   have HO335 := Aside0.mk (Q_HO335 (hon 0 (by kernel_rfl)))
   have HA_HO335 := Aside0.mk (Q_HA_HO335 (hon 0 (by kernel_rfl)))
   obtain ⟨c_, hv_⟩ := HA_HO335.out
   have hF_ := HO335.out
   rw [hv_] at hF_
   obtain ⟨ad_, ea_, hx_⟩ := Kd.at_string (Kd.R_reads' hF_).2.2 (Go.bits .and .i64 a0 3) (of_eq_true pi336) (of_eq_true qi336)
   cases ea_
   refine value_ (w1 := w') (v := .string (rdOf ByteArray.empty y333 (Go.bits .and .i64 a0 3))) (by rfl) rfl ?_ ?_
   ·go_simp
    (try simp only [i64_w])
    try rfl
   refine hK.out _ _ ⟨v334, adz_v334, v338, adz_v338, v342, adz_v342, m3_, m10_, m16_, (by rw [ha.out]; exact putSel_upk 3 hb_ rfl rfl rfl), Q_BK332, Q_HB, Q_HO335, Q_HA_HO335, Q_HO339, Q_HA_HO339, Q_HO343, Q_HA_HO343, fun h0_ => absurd ((hoff 19 (by kernel_rfl)).symm.trans h0_) (by decide), Q_X3_, Q_X10_, Q_X16_⟩
  refine steps_cons ?_ ?_
  ·rintro b a w' ⟨v334, adz_v334, v338, adz_v338, v342, adz_v342, m3_, m10_, m16_, ha, Q_BK332, Q_HB, Q_HO335, Q_HA_HO335, Q_HO339, Q_HA_HO339, Q_HO343, Q_HA_HO343, Q_BK332_e19, Q_X3_, Q_X10_, Q_X16_⟩ hb_ hon hoff
   refine ⟨_, rfl, fun K hK => ?_⟩
   replace ha := Aside0.mk ha
   have BK332 := Aside0.mk (Q_BK332 (hoff 19 (by kernel_rfl)))
   have HB := Aside0.mk Q_HB
   refine Kd.R_lit_step Kd.string _ 9 ?hg (N := 8) ?hd (xs := ([(⟨#[103, 101, 116]⟩ : ByteArray), (⟨#[103, 101, 116, 97, 108, 108]⟩ : ByteArray), (⟨#[112, 117, 116]⟩ : ByteArray), (⟨#[108, 105, 115, 116]⟩ : ByteArray), (⟨#[122]⟩ : ByteArray)] : List ByteArray)) (inner := [.string (⟨#[103, 101, 116]⟩ : ByteArray), .string (⟨#[103, 101, 116, 97, 108, 108]⟩ : ByteArray), .string (⟨#[112, 117, 116]⟩ : ByteArray), .string (⟨#[108, 105, 115, 116]⟩ : ByteArray), .string (⟨#[122]⟩ : ByteArray)]) (ok := fun _ => True) (okp := fun _ => True) ?hr ?hp (fun _ hk => hk) trivial (Below.refl _ _) (Nat.le_refl _) (by simp) ?_; (case hd => rfl); (case hg => rfl); (case hr => first | (go_simp; done) | (go_simp; rfl)); (case hp => exact (Reps.one (show Kd.M Kd.string _ _ _ (⟨#[103, 101, 116]⟩ : ByteArray) [.string (⟨#[103, 101, 116]⟩ : ByteArray)] from rfl) (Reps.one (show Kd.M Kd.string _ _ _ (⟨#[103, 101, 116, 97, 108, 108]⟩ : ByteArray) [.string (⟨#[103, 101, 116, 97, 108, 108]⟩ : ByteArray)] from rfl) (Reps.one (show Kd.M Kd.string _ _ _ (⟨#[112, 117, 116]⟩ : ByteArray) [.string (⟨#[112, 117, 116]⟩ : ByteArray)] from rfl) (Reps.one (show Kd.M Kd.string _ _ _ (⟨#[108, 105, 115, 116]⟩ : ByteArray) [.string (⟨#[108, 105, 115, 116]⟩ : ByteArray)] from rfl) (Reps.one (show Kd.M Kd.string _ _ _ (⟨#[122]⟩ : ByteArray) [.string (⟨#[122]⟩ : ByteArray)] from rfl) (Reps.none _ _)))))))
   intro v338 w12 ho13 hb hg_ hnew_
   clear hg_ hnew_
   (first | rw [← Ny337.out] at ho13 | (simp only [Int.reduceToNat] at ho13; rw [← Ny337.out] at ho13))
   have n0_ := Aside0.mk (Kd.R_lower ho13 (below_size (lb1 HB.out GE332.out)))
   have n1_ := Aside0.mk (blk_below (g := gb332) (o := .cells #[.bool false, .string (⟨#[]⟩ : ByteArray), .string (⟨#[]⟩ : ByteArray), .string (⟨#[]⟩ : ByteArray)] 31 (0, 0)) (lk BK332.out) hb)
   have n2_ := Aside0.mk (below_step (lb1 HB.out GE332.out) hb)
   have z_HO335 := fun (h0_ : b 0 = true) => (show Kd.R Kd.string 9 w12 w.heap.size (fun _ => True) v334 y333 from by first | exact (Kd.R_elder' (by (with_reducible repeat (first | apply Kd.R_alloc | apply Kd.R_drewN | apply Kd.R_drew)); exact (Q_HO335 h0_)) (Kd.R_base ho13) hb) | exact Kd.R_mono (Kd.R_elder' (by (with_reducible repeat (first | apply Kd.R_alloc | apply Kd.R_drewN | apply Kd.R_drew)); exact (Q_HO335 h0_)) (Kd.R_base ho13) hb) (fun _ h_ => by first | trivial | exact h_ | exact h_.1))
   have z_HO343 := fun (h0_ : b 12 = true) => (show Kd.R Kd.string 9 w12 w.heap.size (fun _ => True) v342 y341 from by first | exact (Kd.R_elder' (by (with_reducible repeat (first | apply Kd.R_alloc | apply Kd.R_drewN | apply Kd.R_drew)); exact (Q_HO343 h0_)) (Kd.R_base ho13) hb) | exact Kd.R_mono (Kd.R_elder' (by (with_reducible repeat (first | apply Kd.R_alloc | apply Kd.R_drewN | apply Kd.R_drew)); exact (Q_HO343 h0_)) (Kd.R_base ho13) hb) (fun _ h_ => by first | trivial | exact h_ | exact h_.1))
   clear BK332
   clear HB
   have HO339 := n0_
   have BK332 := n1_
   have HB := n2_
   clear n0_ n1_ n2_
   clear hb ho13
   obtain ⟨Ao14, co14, eo14⟩ := Kd.R_slice HO339.out
   subst eo14
   obtain ⟨ado14, fo14, _⟩ := Kd.at_string (Kd.R_reads' HO339.out).2.2 0 (by decide) (by rw [Ny337.out]; simp)
   cases fo14
   refine hK.out _ _ ⟨v334, adz_v334, .slice (some ado14) y337.length co14, ado14, v342, adz_v342, m3_, m10_, m16_, (by rw [ha.out]; exact putSel_upk 4 hb_ rfl rfl rfl), fun _ => (lk BK332.out), (lb1 HB.out GE332.out), z_HO335, Q_HA_HO335, fun _ => (lR HO339.out), fun _ => ⟨_, rfl⟩, z_HO343, Q_HA_HO343, fun h0_ => absurd ((hoff 19 (by kernel_rfl)).symm.trans h0_) (by decide), Q_X3_, fun h0_ => absurd ((hoff 10 (by kernel_rfl)).symm.trans h0_) (by decide), Q_X16_⟩
  refine steps_cons ?_ ?_
  ·rintro b a w' ⟨v334, adz_v334, v338, adz_v338, v342, adz_v342, m3_, m10_, m16_, ha, Q_BK332, Q_HB, Q_HO335, Q_HA_HO335, Q_HO339, Q_HA_HO339, Q_HO343, Q_HA_HO343, Q_BK332_e19, Q_X3_, Q_X10_, Q_X16_⟩ hb_ hon hoff
   refine ⟨_, rfl, fun K hK => ?_⟩
   have e9 : a.tmps[9]? = some (.int .i64 a0) := by rw [ha]; exact (putSel_off rfl).trans rfl
   replace ha := Aside0.mk ha
   have BK332 := Aside0.mk (Q_BK332 (hoff 19 (by kernel_rfl)))
   have HB := Aside0.mk Q_HB
   refine value_ (w1 := w') (v := .int .i64 (a0 / 4)) (by rfl) rfl ?_ ?_
   ·go_simp
    (try simp only [i64_w])
    try rfl
   refine hK.out _ _ ⟨v334, adz_v334, v338, adz_v338, v342, adz_v342, m3_, m10_, m16_, (by rw [ha.out]; exact putSel_upk 5 hb_ rfl rfl rfl), Q_BK332, Q_HB, Q_HO335, Q_HA_HO335, Q_HO339, Q_HA_HO339, Q_HO343, Q_HA_HO343, fun h0_ => absurd ((hoff 19 (by kernel_rfl)).symm.trans h0_) (by decide), Q_X3_, fun h0_ => absurd ((hoff 10 (by kernel_rfl)).symm.trans h0_) (by decide), Q_X16_⟩
  refine steps_cons ?_ ?_
  ·rintro b a w' ⟨v334, adz_v334, v338, adz_v338, v342, adz_v342, m3_, m10_, m16_, ha, Q_BK332, Q_HB, Q_HO335, Q_HA_HO335, Q_HO339, Q_HA_HO339, Q_HO343, Q_HA_HO343, Q_BK332_e19, Q_X3_, Q_X10_, Q_X16_⟩ hb_ hon hoff
   refine ⟨_, rfl, fun K hK => ?_⟩
   have e10 : a.tmps[10]? = some (.int .i64 (a0 / 4)) := by rw [ha]; exact putSel_on (e := (7, 10, .int .i64 (a0 / 4))) 5 rfl rfl (hon 7 (by kernel_rfl)) rfl
   replace ha := Aside0.mk ha
   have BK332 := Aside0.mk (Q_BK332 (hoff 19 (by kernel_rfl)))
   have HB := Aside0.mk Q_HB
   refine value_ (w1 := w') (v := .int .i64 (Go.bits .and .i64 (a0 / 4) 255)) (by rfl) rfl ?_ ?_
   ·go_simp
    (try simp only [i64_w])
    try rfl
   refine hK.out _ _ ⟨v334, adz_v334, v338, adz_v338, v342, adz_v342, m3_, m10_, m16_, (by rw [ha.out]; exact putSel_upk 6 hb_ rfl rfl rfl), Q_BK332, Q_HB, Q_HO335, Q_HA_HO335, Q_HO339, Q_HA_HO339, Q_HO343, Q_HA_HO343, fun h0_ => absurd ((hoff 19 (by kernel_rfl)).symm.trans h0_) (by decide), Q_X3_, fun h0_ => absurd ((hoff 10 (by kernel_rfl)).symm.trans h0_) (by decide), Q_X16_⟩
  refine steps_cons ?_ ?_
  ·rintro b a w' ⟨v334, adz_v334, v338, adz_v338, v342, adz_v342, m3_, m10_, m16_, ha, Q_BK332, Q_HB, Q_HO335, Q_HA_HO335, Q_HO339, Q_HA_HO339, Q_HO343, Q_HA_HO343, Q_BK332_e19, Q_X3_, Q_X10_, Q_X16_⟩ hb_ hon hoff
   refine ⟨_, rfl, fun K hK => ?_⟩
   have e11 : a.tmps[11]? = some (.int .i64 (Go.bits .and .i64 (a0 / 4) 255)) := by rw [ha]; exact putSel_on (e := (8, 11, .int .i64 (Go.bits .and .i64 (a0 / 4) 255))) 6 rfl rfl (hon 8 (by kernel_rfl)) rfl
   replace ha := Aside0.mk ha
   have BK332 := Aside0.mk (Q_BK332 (hoff 19 (by kernel_rfl)))
   have HB := Aside0.mk Q_HB
   refine value_ (w1 := w') (v := .int .i64 ji4) (by rfl) rfl ?_ ?_
   ·go_simp
    (try simp only [i64_w])
    try rfl
   refine hK.out _ _ ⟨v334, adz_v334, v338, adz_v338, v342, adz_v342, m3_, m10_, m16_, (by rw [ha.out]; exact putSel_upk 7 hb_ rfl rfl rfl), Q_BK332, Q_HB, Q_HO335, Q_HA_HO335, Q_HO339, Q_HA_HO339, Q_HO343, Q_HA_HO343, fun h0_ => absurd ((hoff 19 (by kernel_rfl)).symm.trans h0_) (by decide), Q_X3_, fun h0_ => absurd ((hoff 10 (by kernel_rfl)).symm.trans h0_) (by decide), Q_X16_⟩
  refine steps_cons ?_ ?_
  ·rintro b a w' ⟨v334, adz_v334, v338, adz_v338, v342, adz_v342, m3_, m10_, m16_, ha, Q_BK332, Q_HB, Q_HO335, Q_HA_HO335, Q_HO339, Q_HA_HO339, Q_HO343, Q_HA_HO343, Q_BK332_e19, Q_X3_, Q_X10_, Q_X16_⟩ hb_ hon hoff
   refine ⟨_, rfl, fun K hK => ?_⟩
   have e8 : a.tmps[8]? = some (v338) := by rw [ha]; exact putSel_on (e := (5, 8, v338)) 4 rfl rfl (hon 5 (by kernel_rfl)) rfl
   have e12 : a.tmps[12]? = some (.int .i64 ji4) := by rw [ha]; exact putSel_on (e := (9, 12, .int .i64 ji4)) 7 rfl rfl (hon 9 (by kernel_rfl)) rfl
   replace ha := Aside0.mk ha
   have BK332 := Aside0.mk (Q_BK332 (hoff 19 (by kernel_rfl)))
   have HB := Aside0.mk Q_HB
   have HO339 := Aside0.mk (Q_HO339 (hon 5 (by kernel_rfl)))
   have HA_HO339 := Aside0.mk (Q_HA_HO339 (hon 5 (by kernel_rfl)))
   obtain ⟨c_, hv_⟩ := HA_HO339.out
   rw [hv_] at e8
   refine value_ (w1 := w') (v := .pointer (some (adz_v338.add ((ji4)).toNat))) (by rfl) rfl ?_ ?_
   ·go_simp
    (try simp only [i64_w])
    try rfl
   refine hK.out _ _ ⟨v334, adz_v334, v338, adz_v338, v342, adz_v342, m3_, (.pointer (some (adz_v338.add ((ji4)).toNat))), m16_, (by rw [ha.out]; exact putSel_upk 8 hb_ rfl rfl rfl), Q_BK332, Q_HB, Q_HO335, Q_HA_HO335, Q_HO339, Q_HA_HO339, Q_HO343, Q_HA_HO343, fun h0_ => absurd ((hoff 19 (by kernel_rfl)).symm.trans h0_) (by decide), Q_X3_, fun _ => rfl, Q_X16_⟩
  refine steps_cons ?_ ?_
  ·rintro b a w' ⟨v334, adz_v334, v338, adz_v338, v342, adz_v342, m3_, m10_, m16_, ha, Q_BK332, Q_HB, Q_HO335, Q_HA_HO335, Q_HO339, Q_HA_HO339, Q_HO343, Q_HA_HO343, Q_BK332_e19, Q_X3_, Q_X10_, Q_X16_⟩ hb_ hon hoff
   refine ⟨_, rfl, fun K hK => ?_⟩
   have e13 : a.tmps[13]? = some (m10_) := by rw [ha]; exact putSel_on (e := (10, 13, m10_)) 8 rfl rfl (hon 10 (by kernel_rfl)) rfl
   rw [Q_X10_ (hon 10 (by kernel_rfl))] at e13
   replace ha := Aside0.mk ha
   have BK332 := Aside0.mk (Q_BK332 (hoff 19 (by kernel_rfl)))
   have HB := Aside0.mk Q_HB
   have HO339 := Aside0.mk (Q_HO339 (hon 5 (by kernel_rfl)))
   have HA_HO339 := Aside0.mk (Q_HA_HO339 (hon 5 (by kernel_rfl)))
   obtain ⟨c_, hv_⟩ := HA_HO339.out
   have hF_ := HO339.out
   rw [hv_] at hF_
   obtain ⟨ad_, ea_, hx_⟩ := Kd.at_string (Kd.R_reads' hF_).2.2 (ji4) (of_eq_true pi340) (of_eq_true qi340)
   cases ea_
   refine value_ (w1 := w') (v := .string (rdOf ByteArray.empty y337 (ji4))) (by rfl) rfl ?_ ?_
   ·go_simp
    (try simp only [i64_w])
    try rfl
   refine hK.out _ _ ⟨v334, adz_v334, v338, adz_v338, v342, adz_v342, m3_, m10_, m16_, (by rw [ha.out]; exact putSel_upk 9 hb_ rfl rfl rfl), Q_BK332, Q_HB, Q_HO335, Q_HA_HO335, Q_HO339, Q_HA_HO339, Q_HO343, Q_HA_HO343, fun h0_ => absurd ((hoff 19 (by kernel_rfl)).symm.trans h0_) (by decide), Q_X3_, Q_X10_, Q_X16_⟩
  refine steps_cons ?_ ?_
  ·rintro b a w' ⟨v334, adz_v334, v338, adz_v338, v342, adz_v342, m3_, m10_, m16_, ha, Q_BK332, Q_HB, Q_HO335, Q_HA_HO335, Q_HO339, Q_HA_HO339, Q_HO343, Q_HA_HO343, Q_BK332_e19, Q_X3_, Q_X10_, Q_X16_⟩ hb_ hon hoff
   refine ⟨_, rfl, fun K hK => ?_⟩
   replace ha := Aside0.mk ha
   have BK332 := Aside0.mk (Q_BK332 (hoff 19 (by kernel_rfl)))
   have HB := Aside0.mk Q_HB
   refine Kd.R_lit_step Kd.string _ 9 ?hg (N := 15) ?hd (xs := ([(⟨#[97]⟩ : ByteArray), (⟨#[97, 98]⟩ : ByteArray), (⟨#[98]⟩ : ByteArray), (⟨#[99]⟩ : ByteArray)] : List ByteArray)) (inner := [.string (⟨#[97]⟩ : ByteArray), .string (⟨#[97, 98]⟩ : ByteArray), .string (⟨#[98]⟩ : ByteArray), .string (⟨#[99]⟩ : ByteArray)]) (ok := fun _ => True) (okp := fun _ => True) ?hr ?hp (fun _ hk => hk) trivial (Below.refl _ _) (Nat.le_refl _) (by simp) ?_; (case hd => rfl); (case hg => rfl); (case hr => first | (go_simp; done) | (go_simp; rfl)); (case hp => exact (Reps.one (show Kd.M Kd.string _ _ _ (⟨#[97]⟩ : ByteArray) [.string (⟨#[97]⟩ : ByteArray)] from rfl) (Reps.one (show Kd.M Kd.string _ _ _ (⟨#[97, 98]⟩ : ByteArray) [.string (⟨#[97, 98]⟩ : ByteArray)] from rfl) (Reps.one (show Kd.M Kd.string _ _ _ (⟨#[98]⟩ : ByteArray) [.string (⟨#[98]⟩ : ByteArray)] from rfl) (Reps.one (show Kd.M Kd.string _ _ _ (⟨#[99]⟩ : ByteArray) [.string (⟨#[99]⟩ : ByteArray)] from rfl) (Reps.none _ _))))))
   intro v342 w12 ho13 hb hg_ hnew_
   clear hg_ hnew_
   (first | rw [← Ny341.out] at ho13 | (simp only [Int.reduceToNat] at ho13; rw [← Ny341.out] at ho13))
   have n0_ := Aside0.mk (Kd.R_lower ho13 (below_size (lb1 HB.out GE332.out)))
   have n1_ := Aside0.mk (blk_below (g := gb332) (o := .cells #[.bool false, .string (⟨#[]⟩ : ByteArray), .string (⟨#[]⟩ : ByteArray), .string (⟨#[]⟩ : ByteArray)] 31 (0, 0)) (lk BK332.out) hb)
   have n2_ := Aside0.mk (below_step (lb1 HB.out GE332.out) hb)
   have z_HO335 := fun (h0_ : b 0 = true) => (show Kd.R Kd.string 9 w12 w.heap.size (fun _ => True) v334 y333 from by first | exact (Kd.R_elder' (by (with_reducible repeat (first | apply Kd.R_alloc | apply Kd.R_drewN | apply Kd.R_drew)); exact (Q_HO335 h0_)) (Kd.R_base ho13) hb) | exact Kd.R_mono (Kd.R_elder' (by (with_reducible repeat (first | apply Kd.R_alloc | apply Kd.R_drewN | apply Kd.R_drew)); exact (Q_HO335 h0_)) (Kd.R_base ho13) hb) (fun _ h_ => by first | trivial | exact h_ | exact h_.1))
   have z_HO339 := fun (h0_ : b 5 = true) => (show Kd.R Kd.string 9 w12 w.heap.size (fun _ => True) v338 y337 from by first | exact (Kd.R_elder' (by (with_reducible repeat (first | apply Kd.R_alloc | apply Kd.R_drewN | apply Kd.R_drew)); exact (Q_HO339 h0_)) (Kd.R_base ho13) hb) | exact Kd.R_mono (Kd.R_elder' (by (with_reducible repeat (first | apply Kd.R_alloc | apply Kd.R_drewN | apply Kd.R_drew)); exact (Q_HO339 h0_)) (Kd.R_base ho13) hb) (fun _ h_ => by first | trivial | exact h_ | exact h_.1))
   clear BK332
   clear HB
   have HO343 := n0_
   have BK332 := n1_
   have HB := n2_
   clear n0_ n1_ n2_
   clear hb ho13
   obtain ⟨Ao14, co14, eo14⟩ := Kd.R_slice HO343.out
   subst eo14
   obtain ⟨ado14, fo14, _⟩ := Kd.at_string (Kd.R_reads' HO343.out).2.2 0 (by decide) (by rw [Ny341.out]; simp)
   cases fo14
   refine hK.out _ _ ⟨v334, adz_v334, v338, adz_v338, .slice (some ado14) y341.length co14, ado14, m3_, m10_, m16_, (by rw [ha.out]; exact putSel_upk 10 hb_ rfl rfl rfl), fun _ => (lk BK332.out), (lb1 HB.out GE332.out), z_HO335, Q_HA_HO335, z_HO339, Q_HA_HO339, fun _ => (lR HO343.out), fun _ => ⟨_, rfl⟩, fun h0_ => absurd ((hoff 19 (by kernel_rfl)).symm.trans h0_) (by decide), Q_X3_, Q_X10_, fun h0_ => absurd ((hoff 16 (by kernel_rfl)).symm.trans h0_) (by decide)⟩
  refine steps_cons ?_ ?_
  ·rintro b a w' ⟨v334, adz_v334, v338, adz_v338, v342, adz_v342, m3_, m10_, m16_, ha, Q_BK332, Q_HB, Q_HO335, Q_HA_HO335, Q_HO339, Q_HA_HO339, Q_HO343, Q_HA_HO343, Q_BK332_e19, Q_X3_, Q_X10_, Q_X16_⟩ hb_ hon hoff
   refine ⟨_, rfl, fun K hK => ?_⟩
   have e16 : a.tmps[16]? = some (.int .i64 a0) := by rw [ha]; exact (putSel_off rfl).trans rfl
   replace ha := Aside0.mk ha
   have BK332 := Aside0.mk (Q_BK332 (hoff 19 (by kernel_rfl)))
   have HB := Aside0.mk Q_HB
   refine value_ (w1 := w') (v := .int .i64 (a0 / 1024)) (by rfl) rfl ?_ ?_
   ·go_simp
    (try simp only [i64_w])
    try rfl
   refine hK.out _ _ ⟨v334, adz_v334, v338, adz_v338, v342, adz_v342, m3_, m10_, m16_, (by rw [ha.out]; exact putSel_upk 11 hb_ rfl rfl rfl), Q_BK332, Q_HB, Q_HO335, Q_HA_HO335, Q_HO339, Q_HA_HO339, Q_HO343, Q_HA_HO343, fun h0_ => absurd ((hoff 19 (by kernel_rfl)).symm.trans h0_) (by decide), Q_X3_, Q_X10_, fun h0_ => absurd ((hoff 16 (by kernel_rfl)).symm.trans h0_) (by decide)⟩
  refine steps_cons ?_ ?_
  ·rintro b a w' ⟨v334, adz_v334, v338, adz_v338, v342, adz_v342, m3_, m10_, m16_, ha, Q_BK332, Q_HB, Q_HO335, Q_HA_HO335, Q_HO339, Q_HA_HO339, Q_HO343, Q_HA_HO343, Q_BK332_e19, Q_X3_, Q_X10_, Q_X16_⟩ hb_ hon hoff
   refine ⟨_, rfl, fun K hK => ?_⟩
   have e17 : a.tmps[17]? = some (.int .i64 (a0 / 1024)) := by rw [ha]; exact putSel_on (e := (14, 17, .int .i64 (a0 / 1024))) 11 rfl rfl (hon 14 (by kernel_rfl)) rfl
   replace ha := Aside0.mk ha
   have BK332 := Aside0.mk (Q_BK332 (hoff 19 (by kernel_rfl)))
   have HB := Aside0.mk Q_HB
   refine value_ (w1 := w') (v := .int .i64 ji7) (by rfl) rfl ?_ ?_
   ·go_simp
    (try simp only [i64_w])
    try rfl
   refine hK.out _ _ ⟨v334, adz_v334, v338, adz_v338, v342, adz_v342, m3_, m10_, m16_, (by rw [ha.out]; exact putSel_upk 12 hb_ rfl rfl rfl), Q_BK332, Q_HB, Q_HO335, Q_HA_HO335, Q_HO339, Q_HA_HO339, Q_HO343, Q_HA_HO343, fun h0_ => absurd ((hoff 19 (by kernel_rfl)).symm.trans h0_) (by decide), Q_X3_, Q_X10_, fun h0_ => absurd ((hoff 16 (by kernel_rfl)).symm.trans h0_) (by decide)⟩
  refine steps_cons ?_ ?_
  ·rintro b a w' ⟨v334, adz_v334, v338, adz_v338, v342, adz_v342, m3_, m10_, m16_, ha, Q_BK332, Q_HB, Q_HO335, Q_HA_HO335, Q_HO339, Q_HA_HO339, Q_HO343, Q_HA_HO343, Q_BK332_e19, Q_X3_, Q_X10_, Q_X16_⟩ hb_ hon hoff
   refine ⟨_, rfl, fun K hK => ?_⟩
   have e15 : a.tmps[15]? = some (v342) := by rw [ha]; exact putSel_on (e := (12, 15, v342)) 10 rfl rfl (hon 12 (by kernel_rfl)) rfl
   have e18 : a.tmps[18]? = some (.int .i64 ji7) := by rw [ha]; exact putSel_on (e := (15, 18, .int .i64 ji7)) 12 rfl rfl (hon 15 (by kernel_rfl)) rfl
   replace ha := Aside0.mk ha
   have BK332 := Aside0.mk (Q_BK332 (hoff 19 (by kernel_rfl)))
   have HB := Aside0.mk Q_HB
   have HO343 := Aside0.mk (Q_HO343 (hon 12 (by kernel_rfl)))
   have HA_HO343 := Aside0.mk (Q_HA_HO343 (hon 12 (by kernel_rfl)))
   obtain ⟨c_, hv_⟩ := HA_HO343.out
   rw [hv_] at e15
   refine value_ (w1 := w') (v := .pointer (some (adz_v342.add ((ji7)).toNat))) (by rfl) rfl ?_ ?_
   ·go_simp
    (try simp only [i64_w])
    try rfl
   refine hK.out _ _ ⟨v334, adz_v334, v338, adz_v338, v342, adz_v342, m3_, m10_, (.pointer (some (adz_v342.add ((ji7)).toNat))), (by rw [ha.out]; exact putSel_upk 13 hb_ rfl rfl rfl), Q_BK332, Q_HB, Q_HO335, Q_HA_HO335, Q_HO339, Q_HA_HO339, Q_HO343, Q_HA_HO343, fun h0_ => absurd ((hoff 19 (by kernel_rfl)).symm.trans h0_) (by decide), Q_X3_, Q_X10_, fun _ => rfl⟩
  refine steps_cons ?_ ?_
  ·rintro b a w' ⟨v334, adz_v334, v338, adz_v338, v342, adz_v342, m3_, m10_, m16_, ha, Q_BK332, Q_HB, Q_HO335, Q_HA_HO335, Q_HO339, Q_HA_HO339, Q_HO343, Q_HA_HO343, Q_BK332_e19, Q_X3_, Q_X10_, Q_X16_⟩ hb_ hon hoff
   refine ⟨_, rfl, fun K hK => ?_⟩
   have e19 : a.tmps[19]? = some (m16_) := by rw [ha]; exact putSel_on (e := (16, 19, m16_)) 13 rfl rfl (hon 16 (by kernel_rfl)) rfl
   rw [Q_X16_ (hon 16 (by kernel_rfl))] at e19
   replace ha := Aside0.mk ha
   have BK332 := Aside0.mk (Q_BK332 (hoff 19 (by kernel_rfl)))
   have HB := Aside0.mk Q_HB
   have HO343 := Aside0.mk (Q_HO343 (hon 12 (by kernel_rfl)))
   have HA_HO343 := Aside0.mk (Q_HA_HO343 (hon 12 (by kernel_rfl)))
   obtain ⟨c_, hv_⟩ := HA_HO343.out
   have hF_ := HO343.out
   rw [hv_] at hF_
   obtain ⟨ad_, ea_, hx_⟩ := Kd.at_string (Kd.R_reads' hF_).2.2 (ji7) (of_eq_true pi344) (of_eq_true qi344)
   cases ea_
   refine value_ (w1 := w') (v := .string (rdOf ByteArray.empty y341 (ji7))) (by rfl) rfl ?_ ?_
   ·go_simp
    (try simp only [i64_w])
    try rfl
   refine hK.out _ _ ⟨v334, adz_v334, v338, adz_v338, v342, adz_v342, m3_, m10_, m16_, (by rw [ha.out]; exact putSel_upk 14 hb_ rfl rfl rfl), Q_BK332, Q_HB, Q_HO335, Q_HA_HO335, Q_HO339, Q_HA_HO339, Q_HO343, Q_HA_HO343, fun h0_ => absurd ((hoff 19 (by kernel_rfl)).symm.trans h0_) (by decide), Q_X3_, Q_X10_, Q_X16_⟩
  refine steps_cons ?_ ?_
  ·rintro b a w' ⟨v334, adz_v334, v338, adz_v338, v342, adz_v342, m3_, m10_, m16_, ha, Q_BK332, Q_HB, Q_HO335, Q_HA_HO335, Q_HO339, Q_HA_HO339, Q_HO343, Q_HA_HO343, Q_BK332_e19, Q_X3_, Q_X10_, Q_X16_⟩ hb_ hon hoff
   refine ⟨_, rfl, fun K hK => ?_⟩
   have e7 : a.tmps[7]? = some (.string (rdOf ByteArray.empty y333 (Go.bits .and .i64 a0 3))) := by rw [ha]; exact putSel_on (e := (4, 7, .string (rdOf ByteArray.empty y333 (Go.bits .and .i64 a0 3)))) 3 rfl rfl (hon 4 (by kernel_rfl)) rfl
   have e14 : a.tmps[14]? = some (.string (rdOf ByteArray.empty y337 (ji4))) := by rw [ha]; exact putSel_on (e := (11, 14, .string (rdOf ByteArray.empty y337 (ji4)))) 9 rfl rfl (hon 11 (by kernel_rfl)) rfl
   have e20 : a.tmps[20]? = some (.string (rdOf ByteArray.empty y341 (ji7))) := by rw [ha]; exact putSel_on (e := (17, 20, .string (rdOf ByteArray.empty y341 (ji7)))) 14 rfl rfl (hon 17 (by kernel_rfl)) rfl
   replace ha := Aside0.mk ha
   have BK332 := Aside0.mk (Q_BK332 (hoff 19 (by kernel_rfl)))
   have HB := Aside0.mk Q_HB
   have HO335 := Aside0.mk (Q_HO335 (hon 0 (by kernel_rfl)))
   have HA_HO335 := Aside0.mk (Q_HA_HO335 (hon 0 (by kernel_rfl)))
   have HO339 := Aside0.mk (Q_HO339 (hon 5 (by kernel_rfl)))
   have HA_HO339 := Aside0.mk (Q_HA_HO339 (hon 5 (by kernel_rfl)))
   have HO343 := Aside0.mk (Q_HO343 (hon 12 (by kernel_rfl)))
   have HA_HO343 := Aside0.mk (Q_HA_HO343 (hon 12 (by kernel_rfl)))
   refine value_ (w1 := w') (v := .agg #[.bool false, .string (rdOf ByteArray.empty y333 (Go.bits .and .i64 a0 3)), .string (rdOf ByteArray.empty y337 (ji4)), .string (rdOf ByteArray.empty y341 (ji7))]) (by rfl) rfl ?_ ?_
   ·go_simp
    (try simp only [i64_w])
    try rfl
   refine hK.out _ _ ⟨v334, adz_v334, v338, adz_v338, v342, adz_v342, m3_, m10_, m16_, (by rw [ha.out]; exact putSel_upk 15 hb_ rfl rfl rfl), Q_BK332, Q_HB, Q_HO335, Q_HA_HO335, Q_HO339, Q_HA_HO339, Q_HO343, Q_HA_HO343, fun h0_ => absurd ((hoff 19 (by kernel_rfl)).symm.trans h0_) (by decide), Q_X3_, Q_X10_, Q_X16_⟩
  refine steps_cons ?_ ?_
  ·rintro b a w' ⟨v334, adz_v334, v338, adz_v338, v342, adz_v342, m3_, m10_, m16_, ha, Q_BK332, Q_HB, Q_HO335, Q_HA_HO335, Q_HO339, Q_HA_HO339, Q_HO343, Q_HA_HO343, Q_BK332_e19, Q_X3_, Q_X10_, Q_X16_⟩ hb_ hon hoff
   refine ⟨_, rfl, fun K hK => ?_⟩
   have e2 : a.tmps[2]? = some (.pointer (some ⟨gb332, 0, none⟩)) := by rw [ha]; exact (putSel_off rfl).trans rfl
   have e21 : a.tmps[21]? = some (.agg #[.bool false, .string (rdOf ByteArray.empty y333 (Go.bits .and .i64 a0 3)), .string (rdOf ByteArray.empty y337 (ji4)), .string (rdOf ByteArray.empty y341 (ji7))]) := by rw [ha]; exact putSel_on (e := (18, 21, .agg #[.bool false, .string (rdOf ByteArray.empty y333 (Go.bits .and .i64 a0 3)), .string (rdOf ByteArray.empty y337 (ji4)), .string (rdOf ByteArray.empty y341 (ji7))])) 15 rfl rfl (hon 18 (by kernel_rfl)) rfl
   replace ha := Aside0.mk ha
   have BK332 := Aside0.mk (Q_BK332 hb_)
   have HB := Aside0.mk Q_HB
   have HO335 := Aside0.mk (Q_HO335 (hon 0 (by kernel_rfl)))
   have HA_HO335 := Aside0.mk (Q_HA_HO335 (hon 0 (by kernel_rfl)))
   have HO339 := Aside0.mk (Q_HO339 (hon 5 (by kernel_rfl)))
   have HA_HO339 := Aside0.mk (Q_HA_HO339 (hon 5 (by kernel_rfl)))
   have HO343 := Aside0.mk (Q_HO343 (hon 12 (by kernel_rfl)))
   have HA_HO343 := Aside0.mk (Q_HA_HO343 (hon 12 (by kernel_rfl)))
   obtain ⟨co22, eo22⟩ := HA_HO335.out
   clear HA_HO335
   subst eo22
   obtain ⟨co23, eo23⟩ := HA_HO339.out
   clear HA_HO339
   subst eo23
   obtain ⟨co24, eo24⟩ := HA_HO343.out
   clear HA_HO343
   subst eo24
   have hs25 : w'.cell? ⟨gb332, 0, none⟩ = some (.bool false) := (blk_cell BK332.out 0).trans rfl
   have hfs25 := blk_frozen BK332.out 0
   have hs26 : w'.cell? ⟨gb332, 1, none⟩ = some (.string (⟨#[]⟩ : ByteArray)) := (blk_cell BK332.out 1).trans rfl
   have hfs26 := blk_frozen BK332.out 1
   have hs27 : w'.cell? ⟨gb332, 2, none⟩ = some (.string (⟨#[]⟩ : ByteArray)) := (blk_cell BK332.out 2).trans rfl
   have hfs27 := blk_frozen BK332.out 2
   have hs28 : w'.cell? ⟨gb332, 3, none⟩ = some (.string (⟨#[]⟩ : ByteArray)) := (blk_cell BK332.out 3).trans rfl
   have hfs28 := blk_frozen BK332.out 3
   refine skip_ (w1 := ?_) (by rfl) rfl ?_ ?_
   rotate_left
   ·go_simp
    rfl
   refine hK.out _ _ ⟨.slice (some adz_v334) y333.length co22, adz_v334, .slice (some adz_v338) y337.length co23, adz_v338, .slice (some adz_v342) y341.length co24, adz_v342, m3_, m10_, m16_, (by rw [ha.out]; exact putSel_none (v := undef) rfl), fun h0_ => absurd ((up_self b 19).symm.trans h0_) (by decide), (lb1 HB.out GE332.out), fun _ => (by (with_reducible repeat (first | apply Kd.R_alloc | apply Kd.R_drewN | apply Kd.R_drew)); exact Kd.R_mono (Kd.R_far (p := ⟨gb332, 3, none⟩) (Kd.R_far (p := ⟨gb332, 2, none⟩) (Kd.R_far (p := ⟨gb332, 1, none⟩) (Kd.R_far (p := ⟨gb332, 0, none⟩) (Kd.R_types HO335.out BK332.out (by decide)) (fun _ hk => hk.2) (.bool false)) (fun _ hk => hk.2) (.string (rdOf ByteArray.empty y333 (Go.bits .and .i64 a0 3)))) (fun _ hk => hk.2) (.string (rdOf ByteArray.empty y337 (ji4)))) (fun _ hk => hk.2) (.string (rdOf ByteArray.empty y341 (ji7)))) (fun _ hk => by first | exact ⟨hk.1.1, hk.1.2⟩ | exact trivial)), fun _ => ⟨_, rfl⟩, fun _ => (by (with_reducible repeat (first | apply Kd.R_alloc | apply Kd.R_drewN | apply Kd.R_drew)); exact Kd.R_mono (Kd.R_far (p := ⟨gb332, 3, none⟩) (Kd.R_far (p := ⟨gb332, 2, none⟩) (Kd.R_far (p := ⟨gb332, 1, none⟩) (Kd.R_far (p := ⟨gb332, 0, none⟩) (Kd.R_types HO339.out BK332.out (by decide)) (fun _ hk => hk.2) (.bool false)) (fun _ hk => hk.2) (.string (rdOf ByteArray.empty y333 (Go.bits .and .i64 a0 3)))) (fun _ hk => hk.2) (.string (rdOf ByteArray.empty y337 (ji4)))) (fun _ hk => hk.2) (.string (rdOf ByteArray.empty y341 (ji7)))) (fun _ hk => by first | exact ⟨hk.1.1, hk.1.2⟩ | exact trivial)), fun _ => ⟨_, rfl⟩, fun _ => (by (with_reducible repeat (first | apply Kd.R_alloc | apply Kd.R_drewN | apply Kd.R_drew)); exact Kd.R_mono (Kd.R_far (p := ⟨gb332, 3, none⟩) (Kd.R_far (p := ⟨gb332, 2, none⟩) (Kd.R_far (p := ⟨gb332, 1, none⟩) (Kd.R_far (p := ⟨gb332, 0, none⟩) (Kd.R_types HO343.out BK332.out (by decide)) (fun _ hk => hk.2) (.bool false)) (fun _ hk => hk.2) (.string (rdOf ByteArray.empty y333 (Go.bits .and .i64 a0 3)))) (fun _ hk => hk.2) (.string (rdOf ByteArray.empty y337 (ji4)))) (fun _ hk => hk.2) (.string (rdOf ByteArray.empty y341 (ji7)))) (fun _ hk => by first | exact ⟨hk.1.1, hk.1.2⟩ | exact trivial)), fun _ => ⟨_, rfl⟩, fun _ => (by (with_reducible repeat (first | refine blk_drewN ?_ _ | refine blk_drew ?_ | refine blk_alloc ?_ _)); refine blk_put (cs := #[.bool false, .string (rdOf ByteArray.empty y333 (Go.bits .and .i64 a0 3)), .string (rdOf ByteArray.empty y337 (ji4)), .string (⟨#[]⟩ : ByteArray)]) ?_ 3 _ rfl; (with_reducible repeat (first | refine blk_drewN ?_ _ | refine blk_drew ?_ | refine blk_alloc ?_ _)); refine blk_put (cs := #[.bool false, .string (rdOf ByteArray.empty y333 (Go.bits .and .i64 a0 3)), .string (⟨#[]⟩ : ByteArray), .string (⟨#[]⟩ : ByteArray)]) ?_ 2 _ rfl; (with_reducible repeat (first | refine blk_drewN ?_ _ | refine blk_drew ?_ | refine blk_alloc ?_ _)); refine blk_put (cs := #[.bool false, .string (⟨#[]⟩ : ByteArray), .string (⟨#[]⟩ : ByteArray), .string (⟨#[]⟩ : ByteArray)]) ?_ 1 _ rfl; (with_reducible repeat (first | refine blk_drewN ?_ _ | refine blk_drew ?_ | refine blk_alloc ?_ _)); refine blk_put (cs := #[.bool false, .string (⟨#[]⟩ : ByteArray), .string (⟨#[]⟩ : ByteArray), .string (⟨#[]⟩ : ByteArray)]) ?_ 0 _ rfl; (with_reducible repeat (first | refine blk_drewN ?_ _ | refine blk_drew ?_ | refine blk_alloc ?_ _)); exact BK332.out), Q_X3_, Q_X10_, Q_X16_⟩
  exact steps_nil
 rintro b a w25 hall ⟨v334, adz_v334, v338, adz_v338, v342, adz_v342, m3_, m10_, m16_, ha, Q_BK332, Q_HB, Q_HO335, Q_HA_HO335, Q_HO339, Q_HA_HO339, Q_HO343, Q_HA_HO343, Q_BK332_e19, Q_X3_, Q_X10_, Q_X16_⟩
 clear BK332 HB
 have hb0_ := hall 0 (by kernel_rfl)
 have hb2_ := hall 2 (by kernel_rfl)
 have hb3_ := hall 3 (by kernel_rfl)
 have hb4_ := hall 4 (by kernel_rfl)
 have hb5_ := hall 5 (by kernel_rfl)
 have hb7_ := hall 7 (by kernel_rfl)
 have hb8_ := hall 8 (by kernel_rfl)
 have hb9_ := hall 9 (by kernel_rfl)
 have hb10_ := hall 10 (by kernel_rfl)
 have hb11_ := hall 11 (by kernel_rfl)
 have hb12_ := hall 12 (by kernel_rfl)
 have hb14_ := hall 14 (by kernel_rfl)
 have hb15_ := hall 15 (by kernel_rfl)
 have hb16_ := hall 16 (by kernel_rfl)
 have hb17_ := hall 17 (by kernel_rfl)
 have hb18_ := hall 18 (by kernel_rfl)
 have hb19_ := hall 19 (by kernel_rfl)
 subst ha
 obtain rfl := Q_X3_ hb3_
 obtain rfl := Q_X10_ hb10_
 obtain rfl := Q_X16_ hb16_
 simp only [putSel, hb0_, hb2_, hb3_, hb4_, hb5_, hb7_, hb8_, hb9_, hb10_, hb11_, hb12_, hb14_, hb15_, hb16_, hb17_, hb18_, hb19_, if_true, Act.put, List.setIfInBounds_toArray, List.set_cons_zero, List.set_cons_succ]
 clear Q_BK332
 have HB := Aside0.mk Q_HB
 clear Q_HB
 have HO335 := Aside0.mk (Q_HO335 hb0_)
 clear Q_HO335
 have HA_HO335 := Aside0.mk (Q_HA_HO335 hb0_)
 clear Q_HA_HO335
 have HO339 := Aside0.mk (Q_HO339 hb5_)
 clear Q_HO339
 have HA_HO339 := Aside0.mk (Q_HA_HO339 hb5_)
 clear Q_HA_HO339
 have HO343 := Aside0.mk (Q_HO343 hb12_)
 clear Q_HO343
 have HA_HO343 := Aside0.mk (Q_HA_HO343 hb12_)
 clear Q_HA_HO343
 have BK332 := Aside0.mk (Q_BK332_e19 hb19_)
 clear Q_BK332_e19
 clear hall hb0_ hb2_ hb3_ hb4_ hb5_ hb7_ hb8_ hb9_ hb10_ hb11_ hb12_ hb14_ hb15_ hb16_ hb17_ hb18_ hb19_
 obtain ⟨co26, eo26⟩ := HA_HO335.out
 clear HA_HO335
 subst eo26
 obtain ⟨co27, eo27⟩ := HA_HO339.out
 clear HA_HO339
 subst eo27
 obtain ⟨co28, eo28⟩ := HA_HO343.out
 clear HA_HO343
 subst eo28
 try go_wp2
 refine bodyPost_ret (results_cell_row rfl _ _ gb332 31 #[.bool false, .string (rdOf ByteArray.empty y333 (Go.bits .and .i64 a0 3)), .string (rdOf ByteArray.empty y337 (ji4)), .string (rdOf ByteArray.empty y341 (ji7))] (0, 0) _ rfl (lk BK332.out) Try.underlying31 rfl (by kernel_rfl)) rfl ?_
 exact ⟨by first | rfl | (simp [errW_none, errW_some] <;> rfl) | (simp only [← hji4, ← hji7]; first | rfl | (simp [errW_none, errW_some] <;> rfl)) | (simp [*, errW_none, errW_some] <;> rfl), lb1 HB.out GE332.out⟩

end Go.Proofs.Ytppndhbeglcioaa.GA
