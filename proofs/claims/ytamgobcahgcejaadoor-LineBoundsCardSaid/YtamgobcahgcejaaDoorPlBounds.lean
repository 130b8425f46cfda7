/- The plain law of LineBounds: the printed function answers true at every numbers; no condition but that the numbers are of their types. -/
import Derived.Test.YtamgobcahgcejaaDoorPlLineB
import Derived.Test.YtamgobcahgcejaaDoorGBx12
namespace Go.Proofs.YtamgobcahgcejaaDoor.PureB
open Go.RowKit Go.Proofs.YtamgobcahgcejaaDoorSeq Go.Proofs.YtamgobcahgcejaaDoor.GB Go.Proofs.YtamgobcahgcejaaDoorW.PrintWords Go.Proofs.YtamgobcahgcejaaDoorW.PrintLast Go.Proofs.YtamgobcahgcejaaDoorW.PrintMore
set_option linter.unusedVariables false
set_option linter.unusedSimpArgs false
theorem Ev.mono {α : Type} {f : Nat → Option α} {v : α} (hm : ∀ k, LeO (f k) (f (k + 1))) {K : Nat} (h : f K = some v) : Ev f v := by
  refine ⟨K, fun k hk => ?_⟩
  induction k with
  | zero => obtain rfl : K = 0 := by omega
            exact h
  | succ k ih =>
    rcases Nat.eq_or_lt_of_le hk with e | e
    · rw [← e]; exact h
    · exact hm k v (ih (by omega))
theorem awake_ev : Ev (fun k => entaillaw12_awake.f k) true := Ev.mono (fun k => entaillaw12_awake.mono k) (K := 60) (by decide +kernel)
theorem nat_wrap1 {i : Nat} (h : i < 4611686018427387904) : wrap64 ((i : Int) + 1) = ((i + 1 : Nat) : Int) := by rw [wrap_small (by omega) (by omega)]; omega
theorem and_small (x : Int) (m : Nat) (hm : m < 9223372036854775808) : 0 ≤ Go.bits .and .i64 x m ∧ Go.bits .and .i64 x m ≤ m := by
  unfold Go.bits
  simp only
  have h1 : (BitVec.ofInt IntKind.i64.bits x &&& BitVec.ofInt IntKind.i64.bits (m : Int)).toNat ≤ m := by
    rw [BitVec.toNat_and]
    refine Nat.le_trans Nat.and_le_right ?_
    rw [BitVec.ofInt_natCast, BitVec.toNat_ofNat]
    exact Nat.mod_le _ _
  generalize (BitVec.ofInt IntKind.i64.bits x &&& BitVec.ofInt IntKind.i64.bits (m : Int)).toNat = q at h1 ⊢
  rw [IntKind.wrap_i64]
  omega
def by8 (n : Int) : UInt8 := UInt8.ofNat n.toNat
theorem str_B (xs : List Int) : strOfNums xs = B (xs.map by8) := rfl

/-! ### The two long texts -/
theorem fw_rep : ∀ n, fw (List.replicate n 97) = none
  | 0 => rfl
  | n + 1 => by rw [List.replicate_succ]; unfold fw; rw [if_pos (by decide), fw_rep n]; rfl
theorem split_rep : ∀ n, splitL 10 (List.replicate n 97) = [List.replicate n 97]
  | 0 => rfl
  | n + 1 => by rw [List.replicate_succ, splitL_cons, if_neg (by decide), split_rep n]
theorem bare_rep (n : Nat) : bareL (List.replicate n 97) = List.replicate n 97 := by
  unfold bareL
  rw [if_neg]
  intro h
  have := List.mem_of_getLast? h
  rw [List.mem_replicate] at this
  exact absurd this.2 (by decide)
theorem spec_a (n : Nat) : (spec (List.replicate n 97)).2.2 = if 200000 < n then 8 else 0 := by
  unfold spec
  rw [List.length_replicate]
  by_cases h : 200000 < n
  · rw [if_pos h, if_pos h]
  · rw [if_neg h, if_neg h, if_neg (by rw [List.count_replicate]; simp), split_rep]
    unfold pw
    rw [bare_rep, fw_rep]
    rfl
theorem split_lf : ∀ n, splitL 10 (List.replicate n 10) = List.replicate (n + 1) []
  | 0 => rfl
  | n + 1 => by rw [List.replicate_succ, splitL_cons, if_pos rfl, split_lf n]; rfl
theorem pw_lf : ∀ (n a : Nat), pw (List.replicate n []) a = none
  | 0, _ => rfl
  | n + 1, a => by
    rw [List.replicate_succ]
    unfold pw
    have : fw (bareL []) = none := rfl
    rw [this]
    exact pw_lf n _
theorem spec_lf (n : Nat) (hn : n ≤ 200000) : (spec (List.replicate n 10)).2.2 = if 5000 < n then 8 else 0 := by
  unfold spec
  rw [List.length_replicate, if_neg (by omega), List.count_replicate_self]
  by_cases h : 5000 < n
  · rw [if_pos h, if_pos h]
  · rw [if_neg h, if_neg h, split_lf, pw_lf]

/-! ### The short one -/
def base8 : List UInt8 := [117, 115, 101, 114, 32, 97, 10, 114, 111, 108, 101, 32, 98, 10]
def goodN (c at_ : Nat) : Bool := c == 9 || c == 10 || (decide (32 ≤ c) && decide (c ≤ 126)) || (c == 13 && (at_ == 5 || at_ == 12))
def goodE (c at_ : Nat) : Bool := if (c == 13 && ((base8.set at_ (UInt8.ofNat c)).getD (at_ + 1) 0 == 10)) then true else goodN c at_
def fits (c at_ : Nat) : Bool :=
  let r := (spec (base8.set at_ (UInt8.ofNat c))).2
  ((r.2 == 0) == goodE c at_) && (goodE c at_ || (r.2 == 7 && r.1 == (at_ : Int)))
theorem fits_all : ∀ at_ : Fin 14, ∀ c : Fin 256, (at_.val == 6 || at_.val == 13) = true ∨ fits c.val at_.val = true := by decide +kernel

/-! ### The law -/
def base : List Int := [117, 115, 101, 114, 32, 97, 10, 114, 111, 108, 101, 32, 98, 10]
theorem set_fill (x : Int) (i m : Nat) : (List.replicate i x ++ List.replicate (m + 1) 0).set i x = List.replicate (i + 1) x ++ List.replicate m 0 := by
  rw [List.set_append_right _ _ (by simp), List.length_replicate, Nat.sub_self, List.replicate_succ, List.set_cons_zero, List.replicate_succ', List.append_assoc]
  rfl
section
variable (n0 k0 c a3 : Int) (n m : Nat) (v : Bool)
theorem fill0 (hn : n ≤ 300000) (Y : List Int) (H : Ev (fun k => entaillaw12_LineBounds.l1 k n0 k0 c a3 (List.replicate n 97) Y (Y.length : Int) 0) v) : ∀ (d i : Nat), n - i = d → i ≤ n →
    Ev (fun k => entaillaw12_LineBounds.l0 k n0 k0 c a3 (List.replicate i 97 ++ List.replicate (n - i) 0) Y (n : Int) (i : Int)) v
  | 0, i, hd, hi => by
    obtain rfl : i = n := by omega
    rw [Nat.sub_self, List.replicate_zero, List.append_nil]
    refine Ev.step (fun k => ?_) H
    conv => lhs; unfold entaillaw12_LineBounds.l0
    rw [if_neg (by omega)]
  | d + 1, i, hd, hi => by
    have ih := fill0 hn Y H d (i + 1) (by omega) (by omega)
    refine Ev.step (fun k => ?_) ih
    conv => lhs; unfold entaillaw12_LineBounds.l0
    rw [if_pos (by omega), if_pos (by omega), if_pos (by rw [List.length_append, List.length_replicate, List.length_replicate]; omega), nat_wrap1 (by omega), Int.toNat_natCast]
    rw [show n - i = (n - (i + 1)) + 1 by omega, set_fill]
theorem fill1 (hm : m ≤ 300000) (X : List Int) (H : Ev (fun k => if (rd base (Int.tmod (Go.bits .and .i64 a3 255) 14)) = 10 then (entaillaw12_LineBounds.j2 k n0 k0 c (wrap64 ((Int.tmod (Go.bits .and .i64 a3 255) 14) - 1)) X (List.replicate m 10) base) else (entaillaw12_LineBounds.j2 k n0 k0 c (Int.tmod (Go.bits .and .i64 a3 255) 14) X (List.replicate m 10) base)) v)
    (h255 : 0 ≤ Go.bits .and .i64 a3 255) : ∀ (d i : Nat), m - i = d → i ≤ m →
    Ev (fun k => entaillaw12_LineBounds.l1 k n0 k0 c a3 X (List.replicate i 10 ++ List.replicate (m - i) 0) (m : Int) (i : Int)) v
  | 0, i, hd, hi => by
    obtain rfl : i = m := by omega
    rw [Nat.sub_self, List.replicate_zero, List.append_nil]
    refine Ev.step (fun k => ?_) H
    conv => lhs; unfold entaillaw12_LineBounds.l1
    have hE : ([117, 115, 101, 114, 32, 97, 10, 114, 111, 108, 101, 32, 98, 10] : List Int) = base := rfl
    have hl : ((base.length : Nat) : Int) = 14 := rfl
    have t0 := Int.tmod_nonneg 14 h255
    have t1 := Int.tmod_lt_of_pos (Go.bits .and .i64 a3 255) (show (0 : Int) < 14 by decide)
    rw [if_neg (by omega), hE, Option.bind_some, hl, if_neg (by decide), if_pos t0, if_pos t1]
  | d + 1, i, hd, hi => by
    have ih := fill1 hm X H h255 d (i + 1) (by omega) (by omega)
    refine Ev.step (fun k => ?_) ih
    conv => lhs; unfold entaillaw12_LineBounds.l1
    rw [if_pos (by omega), if_pos (by omega), if_pos (by rw [List.length_append, List.length_replicate, List.length_replicate]; omega), nat_wrap1 (by omega), Int.toNat_natCast]
    rw [show m - i = (m - (i + 1)) + 1 by omega, set_fill]
end
theorem map_rep (n : Nat) (x : Int) : (List.replicate n x).map by8 = List.replicate n (by8 x) := by rw [List.map_replicate]
theorem chain5 (n0 k0 : Int) (at_ : Nat) (n m : Nat) (hn : n0 = (n : Int)) (hm : k0 = (m : Int)) (ra rb : Int) (rc : Int × Int) (G : Bool) (sa : ra = if 200000 < n then 8 else 0) (sb : rb = if 5000 < m then 8 else 0)
    (F1 : (rc.2 == 0) = G) (F2 : G = true ∨ rc.2 = 7 ∧ rc.1 = (at_ : Int)) : Ev (fun k => entaillaw12_LineBounds.j5 k n0 k0 (at_ : Int) ra rb rc.1 rc.2 G) true := by
  refine Ev.step (g := fun k => (entaillaw12_awake.f k).bind fun t154 => (some t154)) (fun k => ?_) (Ev.bind awake_ev (Ev.pure _))
  rw [entaillaw12_LineBounds.j5]
  have e1 : ((ra == 8) == (decide (n0 > 200000))) = true := by
    rw [sa, hn]
    by_cases h : 200000 < n
    · rw [if_pos h, decide_eq_true (by omega)]; rfl
    · rw [if_neg h, decide_eq_false (by omega)]; rfl
  have e2 : ((rb == 8) == (decide (k0 > 5000))) = true := by
    rw [sb, hm]
    by_cases h : 5000 < m
    · rw [if_pos h, decide_eq_true (by omega)]; rfl
    · rw [if_neg h, decide_eq_false (by omega)]; rfl
  rw [if_pos e1, if_pos e2, if_pos (by rw [F1]; cases G <;> rfl)]
  by_cases hg : G = true
  · rw [if_pos hg]
  · rw [if_neg hg]
    rcases F2 with h | ⟨h1, h2⟩
    · exact absurd h hg
    · rw [if_pos h1, if_pos h2]
theorem chain3 (n0 k0 : Int) (c at_ : Nat) (hat : at_ < 13) (ra rb r1 r2 : Int) (X : List Int) (hX : X.length = 14) (d : UInt8) (hd : rd X ((at_ + 1 : Nat) : Int) = 10 ↔ d = 10) (G0 : Bool) (v : Bool)
    (H : Ev (fun k => entaillaw12_LineBounds.j5 k n0 k0 (at_ : Int) ra rb r1 r2 (if (c == 13 && d == 10) then true else G0)) v) : Ev (fun k => entaillaw12_LineBounds.j3 k n0 k0 (c : Int) (at_ : Int) X ra rb r1 r2 G0) v := by
  have hw := nat_wrap1 (i := at_) (by omega)
  have j4 : ∀ k x, entaillaw12_LineBounds.j4 (k + 1) n0 k0 (at_ : Int) ra rb r1 r2 G0 x = entaillaw12_LineBounds.j5 k n0 k0 (at_ : Int) ra rb r1 r2 (if x then true else G0) := by
    intro k x
    rw [entaillaw12_LineBounds.j4]
    cases x <;> rfl
  refine Ev.step (g := fun k => entaillaw12_LineBounds.j4 k n0 k0 (at_ : Int) ra rb r1 r2 G0 (c == 13 && d == 10)) (fun k => ?_) (Ev.step (fun k => j4 k _) H)
  rw [entaillaw12_LineBounds.j3, hw, hX, if_pos (by omega), if_pos (by omega)]
  have h13' : (((c : Nat) : Int) == 13) = (c == 13) := by
    by_cases hc13 : c = 13
    · subst hc13; rfl
    · have a : ((c : Int) == 13) = false := by simpa using fun h : (c : Int) = 13 => hc13 (by omega)
      have b : (c == 13) = false := by simpa using hc13
      rw [a, b]
  by_cases h10 : d = 10
  · have e : (d == 10) = true := by simpa using h10
    rw [if_pos (hd.2 h10), e, h13', Bool.and_true]
  · have e : (d == 10) = false := by simpa using h10
    rw [if_neg (fun hh => h10 (hd.1 hh)), e, Bool.and_false]
theorem chain2 (n0 k0 : Int) (c at_ : Nat) (hat : at_ < 14) (x9 x10 : List Int) (La Lb Lc : List UInt8) (ea : strOfNums x9 = B La) (eb : strOfNums x10 = B Lb) (ec : strOfNums (base.set at_ (c : Int)) = B Lc) (v : Bool) (ra rb rc : List S32 × Int × Int)
    (la : Ev (fun k => line_Lines.f k (B La)) ra) (lb : Ev (fun k => line_Lines.f k (B Lb)) rb) (lc : Ev (fun k => line_Lines.f k (B Lc)) rc)
    (fin4 : Ev (fun k => entaillaw12_LineBounds.j3 k n0 k0 (c : Int) (at_ : Int) (base.set at_ (c : Int)) ra.2.2 rb.2.2 rc.2.1 rc.2.2 (goodN c at_)) v) :
    Ev (fun k => entaillaw12_LineBounds.j2 k n0 k0 (c : Int) (at_ : Int) x9 x10 base) v := by
  refine Ev.step (g := fun k => (line_Lines.f k (B La)).bind fun bt138 => ((line_Lines.f k (B Lb)).bind fun bt143 => ((line_Lines.f k (B Lc)).bind fun bt148 => entaillaw12_LineBounds.j3 k n0 k0 (c : Int) (at_ : Int) (base.set at_ (c : Int)) bt138.2.2 bt143.2.2 bt148.2.1 bt148.2.2 (goodN c at_)))) (fun k => ?_) (Ev.bind la (Ev.bind lb (Ev.bind lc fin4)))
  have hbl : ((base.length : Nat) : Int) = 14 := rfl
  rw [entaillaw12_LineBounds.j2, if_pos (by omega), if_pos (by rw [hbl]; omega), Option.bind_some, Int.toNat_natCast, ea, eb, ec]
  generalize base.set at_ (c : Int) = X
  congr 1; funext bt138; congr 1; funext bt143; congr 1; funext bt148
  have e5 : ((at_ : Int) = 5) ↔ at_ = 5 := by omega
  have e12 : ((at_ : Int) == 12) = (at_ == 12) := by
    by_cases h : at_ = 12
    · subst h; rfl
    · have a : ((at_ : Int) == 12) = false := by simpa using fun h' : (at_ : Int) = 12 => h (by omega)
      have b : (at_ == 12) = false := by simpa using h
      rw [a, b]
  rw [e12]
  by_cases h9 : c = 9
  · have : goodN c at_ = true := by simp [goodN, h9]
    rw [if_pos (by omega), this]
  · rw [if_neg (by omega)]
    by_cases h10 : c = 10
    · have : goodN c at_ = true := by simp [goodN, h10]
      rw [if_pos (by omega), this]
    · rw [if_neg (by omega)]
      by_cases h13c : c = 13
      · rw [if_neg (by omega), if_pos (by omega)]
        by_cases h5 : at_ = 5
        · have : goodN c at_ = true := by simp [goodN, h13c, h5]
          rw [if_pos (e5.2 h5), this]
        · rw [if_neg (fun h => h5 (e5.1 h))]
          have : goodN c at_ = (at_ == 12) := by simp [goodN, h13c, h5]
          rw [this]
      · by_cases h32 : 32 ≤ c
        · rw [if_pos (by omega)]
          by_cases h126 : c ≤ 126
          · rw [if_pos (by omega)]
            have : goodN c at_ = true := by simp [goodN, h32, h126]
            rw [this]
          · rw [if_neg (by omega), if_neg (by omega)]
            have : goodN c at_ = false := by simp [goodN, h9, h10, h126, h13c]
            rw [this]
        · rw [if_neg (by omega), if_neg (by omega)]
          have : goodN c at_ = false := by simp [goodN, h9, h10, h32, h13c]
          rw [this]
theorem next_is (c at_ : Nat) (hat : at_ < 13) : rd (base.set at_ (c : Int)) ((at_ + 1 : Nat) : Int) = 10 ↔ (base8.set at_ (UInt8.ofNat c)).getD (at_ + 1) 0 = 10 := by
  unfold rd
  rw [Int.toNat_natCast, List.getD_eq_getElem?_getD, List.getD_eq_getElem?_getD, List.getElem?_set_ne (by omega), List.getElem?_set_ne (by omega)]
  have : ∀ i : Fin 14, (base[i.val]?.getD 0 = 10 ↔ base8[i.val]?.getD 0 = 10) := by decide
  exact this ⟨at_ + 1, by omega⟩
theorem ec_is (c at_ : Nat) : strOfNums (base.set at_ (c : Int)) = B (base8.set at_ (UInt8.ofNat c)) := by
  rw [str_B, List.map_set]
  congr 1
theorem fits_is (c at_ : Nat) (hc : c < 256) (hat : at_ < 14) (h6 : at_ ≠ 6) (h13 : at_ ≠ 13) : ((spec (base8.set at_ (UInt8.ofNat c))).2.2 == 0) = goodE c at_ ∧ (goodE c at_ = true ∨ (spec (base8.set at_ (UInt8.ofNat c))).2.2 = 7 ∧ (spec (base8.set at_ (UInt8.ofNat c))).2.1 = (at_ : Int)) := by
  have F : fits c at_ = true := by
    rcases fits_all ⟨at_, hat⟩ ⟨c, hc⟩ with h | h
    · simp at h; omega
    · exact h
  unfold fits at F
  generalize (spec (base8.set at_ (UInt8.ofNat c))).2 = q at F ⊢
  generalize goodE c at_ = g at F ⊢
  simp only [Bool.and_eq_true, Bool.or_eq_true, beq_iff_eq] at F
  exact F
theorem tail_ev (n0 k0 : Int) (c at_ : Nat) (hc : c < 256) (hat : at_ < 14) (h6 : at_ ≠ 6) (h13 : at_ ≠ 13) (n m : Nat) (hn : n0 = (n : Int)) (hm : k0 = (m : Int)) (hml : m ≤ 200000) :
    Ev (fun k => entaillaw12_LineBounds.j2 k n0 k0 (c : Int) (at_ : Int) (List.replicate n 97) (List.replicate m 10) base) true := by
  have ea : strOfNums (List.replicate n 97) = B (List.replicate n 97) := by
    rw [str_B, map_rep]
    congr 1
  have eb : strOfNums (List.replicate m 10) = B (List.replicate m 10) := by
    rw [str_B, map_rep]
    congr 1
  obtain ⟨F1, F2⟩ := fits_is c at_ hc hat h6 h13
  refine chain2 n0 k0 c at_ hat _ _ _ _ _ ea eb (ec_is c at_) true _ _ _ (Lines_ev _) (Lines_ev _) (Lines_ev _) ?_
  refine chain3 n0 k0 c at_ (by omega) _ _ _ _ _ (by rw [List.length_set]; rfl) _ (next_is c at_ (by omega)) _ true ?_
  exact chain5 n0 k0 at_ n m hn hm _ _ (spec (base8.set at_ (UInt8.ofNat c))).2 _ (spec_a n) (spec_lf m hml) F1 F2
theorem LineBounds : entaillaw12_LineBounds.Pure := by
  intro a0 a1 a2 a3 w0 w1 w2 w3
  refine Ev.ex ?_
  have b0 := and_small a0 31 (by decide)
  have b1 := and_small a1 31 (by decide)
  have b3 := and_small a3 255 (by decide)
  obtain ⟨n, hn⟩ : ∃ n : Nat, 199990 + Go.bits .and .i64 a0 (31 : Nat) = n := ⟨(199990 + Go.bits .and .i64 a0 (31 : Nat)).toNat, by omega⟩
  obtain ⟨m, hm⟩ : ∃ m : Nat, 4990 + Go.bits .and .i64 a1 (31 : Nat) = m := ⟨(4990 + Go.bits .and .i64 a1 (31 : Nat)).toNat, by omega⟩
  have hn' : wrap64 (199990 + Go.bits .and .i64 a0 31) = (n : Int) := by
    rw [show (199990 + Go.bits .and .i64 a0 31) = (n : Int) from hn]; exact wrap_nat (by omega)
  have hm' : wrap64 (4990 + Go.bits .and .i64 a1 31) = (m : Int) := by
    rw [show (4990 + Go.bits .and .i64 a1 31) = (m : Int) from hm]; exact wrap_nat (by omega)
  have hc : 0 ≤ a2 ∧ a2 ≤ 255 := by
    have := w2
    simp [Lit.wf] at this
    have e1 : IntKind.u8.min = 0 := rfl
    have e2 : IntKind.u8.max = 255 := rfl
    omega
  obtain ⟨c, rfl⟩ : ∃ c : Nat, a2 = c := ⟨a2.toNat, by omega⟩
  have h255 : 0 ≤ Go.bits .and .i64 a3 255 := b3.1
  have h255' : Go.bits .and .i64 a3 255 ≤ 255 := b3.2
  have tail : Ev (fun k => if (rd base (Int.tmod (Go.bits .and .i64 a3 255) 14)) = 10 then (entaillaw12_LineBounds.j2 k (n : Int) (m : Int) (c : Int) (wrap64 ((Int.tmod (Go.bits .and .i64 a3 255) 14) - 1)) (List.replicate n 97) (List.replicate m 10) base) else (entaillaw12_LineBounds.j2 k (n : Int) (m : Int) (c : Int) (Int.tmod (Go.bits .and .i64 a3 255) 14) (List.replicate n 97) (List.replicate m 10) base)) true := by
    have t0 := Int.tmod_nonneg 14 h255
    have t1 := Int.tmod_lt_of_pos (Go.bits .and .i64 a3 255) (show (0 : Int) < 14 by decide)
    obtain ⟨q, hq⟩ : ∃ q : Nat, Int.tmod (Go.bits .and .i64 a3 255) 14 = q := ⟨(Int.tmod (Go.bits .and .i64 a3 255) 14).toNat, by omega⟩
    rw [hq] at t0 t1 ⊢
    have hq14 : q < 14 := by omega
    have cases14 : ∀ i : Fin 14, (rd base ((i.val : Nat) : Int) = 10 ↔ (i.val = 6 ∨ i.val = 13)) := by decide
    have := cases14 ⟨q, hq14⟩
    by_cases h10 : rd base (q : Int) = 10
    · refine Ev.congr (fun k => if_pos h10) ?_
      have h := this.1 h10
      rw [show wrap64 ((q : Int) - 1) = ((q - 1 : Nat) : Int) by rw [wrap_small (by omega) (by omega)]; simp at h; omega]
      simp at h
      exact tail_ev _ _ c (q - 1) (by omega) (by omega) (by omega) (by omega) n m rfl rfl (by omega)
    · refine Ev.congr (fun k => if_neg h10) ?_
      have h : ¬ (q = 6 ∨ q = 13) := fun h => h10 (this.2 h)
      exact tail_ev _ _ c q (by omega) (by omega) (by omega) (by omega) n m rfl rfl (by omega)
  have f1 := fill1 (n : Int) (m : Int) (c : Int) a3 m true (by omega) (List.replicate n 97) tail h255 m 0 rfl (Nat.zero_le _)
  rw [List.replicate_zero, List.nil_append, Nat.sub_zero] at f1
  have f0 := fill0 (n : Int) (m : Int) (c : Int) a3 n true (by omega) (List.replicate m 0) (by rw [List.length_replicate]; exact f1) n 0 rfl (Nat.zero_le _)
  rw [List.replicate_zero, List.nil_append, Nat.sub_zero] at f0
  refine Ev.congr (fun k => ?_) f0
  unfold entaillaw12_LineBounds.f
  rw [hn', hm', if_pos (by omega), if_pos (by omega), Option.bind_some, if_pos (by omega), if_pos (by omega), Int.toNat_natCast, Int.toNat_natCast, List.length_replicate]
  rfl
end Go.Proofs.YtamgobcahgcejaaDoor.PureB
