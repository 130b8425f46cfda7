/- The plain law of LineTells: the printed function answers true at every text and every row of texts; and the walk with it. -/
import Derived.Test.YtamgobcahgcejaaDoorPlRef
import Derived.Test.YtamgobcahgcejaaDoorGAx17
namespace Go.Proofs.YtamgobcahgcejaaDoor.Pure
open Go.RowKit Go.Proofs.YtamgobcahgcejaaDoorSeq Go.Proofs.YtamgobcahgcejaaDoor.GA Go.Proofs.YtamgobcahgcejaaDoorW.PrintWords Go.Proofs.YtamgobcahgcejaaDoorW.PrintLast Go.Proofs.YtamgobcahgcejaaDoorW.PrintMore
set_option linter.unusedVariables false
set_option linter.unusedSimpArgs false

theorem Ev.mono {α : Type} {f : Nat → Option α} {v : α} (hm : ∀ k, LeO (f k) (f (k + 1))) {K : Nat} (h : f K = some v) : Ev f v := by
  refine ⟨K, fun k hk => ?_⟩
  induction k with
  | zero => obtain rfl : K = 0 := by omega
            exact h
  | succ k ih =>
    rcases Nat.eq_or_lt_of_le hk with e | e
    · rw [← e]; exact h
    · exact hm k v (ih (by omega))
theorem awake_ev : Ev (fun k => entaillaw12_awake.f k) true := Ev.mono (fun k => entaillaw12_awake.mono k) (K := 60) (by decide +kernel)

/-! ### How long the lines are -/
theorem Wd_len : ∀ (n : Nat) (l : List UInt8) (a : Int), (Wd n l a).length ≤ n
  | 0, _, _ => by simp [Wd]
  | n + 1, [], _ => by simp [Wd]
  | n + 1, c :: r, a => by
    unfold Wd
    split
    · have := Wd_len n r (a + 1); omega
    · split
      · simp
      · have := Wd_len n ((c :: r).dropWhile (fun x => !blank x)) (a + (((c :: r).takeWhile (fun x => !blank x)).length : Int))
        simp only [List.length_cons]; omega
def Tame (N : Nat) (a : List S32) : Prop := a.length ≤ N ∧ ∀ x ∈ a, x.f1.length ≤ N
theorem lg_tame : ∀ (P : List (List UInt8)) (out : List S32) (a : Int) (N : Nat), out.length + P.length ≤ N → (∀ x ∈ out, x.f1.length ≤ N) → total P ≤ N → Tame N (lg P out a)
  | [], out, a, N, h, ho, _ => ⟨by simpa [lg] using h, ho⟩
  | p :: r, out, a, N, h, ho, ht => by
    unfold total at ht
    unfold lg
    have hw : (Ws (bareL p) a).length ≤ N := by
      have := Wd_len (bareL p).length (bareL p) a
      have h2 := bareL_le p
      show (Wd _ _ _).length ≤ N
      omega
    refine lg_tame r _ _ N ?_ ?_ (by omega)
    · have := put_len out (Ws (bareL p) a)
      simp at h; omega
    · intro x hx
      unfold put at hx
      split at hx
      · rcases List.mem_append.1 hx with hx | hx
        · exact ho x hx
        · simp at hx; subst hx; exact hw
      · exact ho x hx
theorem spec_tame (l : List UInt8) : Tame (l.length + 1) (spec l).1 := by
  have nil : Tame (l.length + 1) [] := ⟨by simp, by simp⟩
  unfold spec
  split
  · exact nil
  · split
    · exact nil
    · split
      · exact nil
      · exact lg_tame _ _ _ _ (by have := splitL_count l; simp; omega) (by simp) (by rw [total_splitL]; exact Nat.le_refl _)

/-! ### Same -/
theorem rd_at {α : Type} (xs : List α) (d : α) (i : Nat) (h : i < xs.length) : xs.getD i d ∈ xs := by
  rw [List.getD_eq_getElem?_getD, List.getElem?_eq_getElem h]; exact List.getElem_mem h
theorem same_l1 (a : List S32) (N : Nat) (hN : N < 4000000000000) (ha : Tame N a) (i : Nat) (hi : i < a.length) (v : Bool) (H : Ev (fun k => entaillaw12_Same.l0 k a a ((i + 1 : Nat) : Int)) v) : ∀ (d j : Nat), ((rd_T32 a (i : Int)).f1).length - j = d → j ≤ ((rd_T32 a (i : Int)).f1).length →
    Ev (fun k => entaillaw12_Same.l1 k a a (i : Int) (j : Int)) v
  | 0, j, hd, hj => by
    have h1 := ha.1
    refine Ev.step (fun k => ?_) H
    conv => lhs; unfold entaillaw12_Same.l1
    rw [if_pos (by omega), if_pos (by omega), if_neg (by omega), nat_wrap1 (by omega)]
  | d + 1, j, hd, hj => by
    have h1 := ha.1
    have h2 : ((rd_T32 a (i : Int)).f1).length ≤ N := ha.2 _ (by unfold rd_T32; rw [Int.toNat_natCast]; exact rd_at _ _ _ hi)
    refine Ev.step (fun k => ?_) (same_l1 a N hN ha i hi v H d (j + 1) (by omega) (by omega))
    conv => lhs; unfold entaillaw12_Same.l1
    rw [if_pos (by omega), if_pos (by omega), if_pos (by omega), if_pos (by omega), if_pos (by omega), if_pos (by omega), if_neg (by simp), nat_wrap1 (by omega)]
theorem same_l0 (a : List S32) (N : Nat) (hN : N < 4000000000000) (ha : Tame N a) : ∀ (d i : Nat), a.length - i = d → i ≤ a.length → Ev (fun k => entaillaw12_Same.l0 k a a (i : Int)) true
  | 0, i, hd, hi => by
    refine Ev.step (g := fun _ => some true) (fun k => ?_) (Ev.pure _)
    conv => lhs; unfold entaillaw12_Same.l0
    rw [if_neg (by omega)]
  | d + 1, i, hd, hi => by
    have h1 := ha.1
    have ih := same_l0 a N hN ha d (i + 1) (by omega) (by omega)
    have s := same_l1 a N hN ha i (by omega) true ih _ 0 rfl (Nat.zero_le _)
    refine Ev.step (g := fun k => entaillaw12_Same.j1 k a a (i : Int) false) (fun k => ?_) (Ev.step (fun k => ?_) s)
    · conv => lhs; unfold entaillaw12_Same.l0
      rw [if_pos (by omega), if_pos (by omega), if_pos (by omega), if_pos rfl]
      simp
    · conv => lhs; unfold entaillaw12_Same.j1
      rw [if_neg (by decide)]
      rfl
theorem same_ev (a : List S32) (N : Nat) (hN : N < 4000000000000) (ha : Tame N a) : Ev (fun k => entaillaw12_Same.f k a a) true := by
  have := same_l0 a N hN ha a.length 0 rfl (Nat.zero_le _)
  refine Ev.congr (fun k => ?_) this
  unfold entaillaw12_Same.f
  rw [if_pos rfl]; rfl

/-! ### Tame -/
theorem pick_small (xs : List ByteArray) (n : Nat) (h : ∀ x ∈ xs, x.size ≤ n) (i : Int) : (rdOf ByteArray.empty xs i).size ≤ n := by
  unfold rdOf
  rcases Nat.lt_or_ge i.toNat xs.length with hl | hl
  · exact h _ (rd_at _ _ _ hl)
  · rw [List.getD_eq_getElem?_getD, List.getElem?_eq_none hl]; exact Nat.zero_le _
theorem tame_l0 (s : ByteArray) : ∀ (d i : Nat) (t : ByteArray), 100 - i = d → i ≤ 100 → t.size ≤ 5 * i → ∃ u : ByteArray, u.size ≤ 500 ∧ Ev (fun k => entaillaw12_Tame.l0 k s t (i : Int)) u
  | 0, i, t, hd, hi, ht => by
    refine ⟨t, by omega, Ev.step (g := fun _ => some t) (fun k => ?_) (Ev.pure _)⟩
    conv => lhs; unfold entaillaw12_Tame.l0
    split
    · rw [if_neg (by omega)]
    · rfl
  | d + 1, i, t, hd, hi, ht => by
    by_cases h : i < s.size
    · have hp := fun j => pick_small ([(⟨#[97]⟩ : ByteArray), (⟨#[98]⟩ : ByteArray), (⟨#[32]⟩ : ByteArray), (⟨#[9]⟩ : ByteArray), (⟨#[10]⟩ : ByteArray), (⟨#[13, 10]⟩ : ByteArray), (⟨#[35]⟩ : ByteArray), (⟨#[32, 35]⟩ : ByteArray), (⟨#[117, 115, 101, 114, 32]⟩ : ByteArray), (⟨#[120]⟩ : ByteArray), (⟨#[32, 32]⟩ : ByteArray), (⟨#[13]⟩ : ByteArray), (⟨#[49]⟩ : ByteArray), (⟨#[97, 35]⟩ : ByteArray), (⟨#[10, 10]⟩ : ByteArray), (⟨#[126]⟩ : ByteArray)] : List ByteArray) 5 (by decide) j
      have hb := bt_range s (i : Int)
      have hx := u8_and15 (x := bt s (i : Int)) hb.1 (by omega)
      generalize hq : ([(⟨#[97]⟩ : ByteArray), (⟨#[98]⟩ : ByteArray), (⟨#[32]⟩ : ByteArray), (⟨#[9]⟩ : ByteArray), (⟨#[10]⟩ : ByteArray), (⟨#[13, 10]⟩ : ByteArray), (⟨#[35]⟩ : ByteArray), (⟨#[32, 35]⟩ : ByteArray), (⟨#[117, 115, 101, 114, 32]⟩ : ByteArray), (⟨#[120]⟩ : ByteArray), (⟨#[32, 32]⟩ : ByteArray), (⟨#[13]⟩ : ByteArray), (⟨#[49]⟩ : ByteArray), (⟨#[97, 35]⟩ : ByteArray), (⟨#[10, 10]⟩ : ByteArray), (⟨#[126]⟩ : ByteArray)] : List ByteArray) = xs at hp
      have hl : xs.length = 16 := by rw [← hq]; rfl
      obtain ⟨u, hu, hev⟩ := tame_l0 s d (i + 1) (t ++ rdOf ByteArray.empty xs (Go.bits .and .u8 (bt s (i : Int)) 15)) (by omega) (by omega) (by
        rw [ByteArray.size_append]; have := hp (Go.bits .and .u8 (bt s (i : Int)) 15); omega)
      refine ⟨u, hu, Ev.step (fun k => ?_) hev⟩
      conv => lhs; unfold entaillaw12_Tame.l0
      rw [if_pos (by omega), if_pos (by omega)]
      simp only [Option.bind_some, hq]
      have := hp (Go.bits .and .u8 (bt s (i : Int)) 15)
      rw [if_pos (by omega), if_pos (by omega), if_pos (by omega), if_pos (by omega), nat_wrap1 (by omega)]
    · refine ⟨t, by omega, Ev.step (g := fun _ => some t) (fun k => ?_) (Ev.pure _)⟩
      conv => lhs; unfold entaillaw12_Tame.l0
      rw [if_neg (by omega)]
theorem tame_ev (s : ByteArray) : ∃ u : ByteArray, u.size ≤ 500 ∧ Ev (fun k => entaillaw12_Tame.f k s) u := tame_l0 s 100 0 _ rfl (by omega) (by decide)

/-! ### Join and Glue -/
def glueL : List (List UInt8) → Bool → List UInt8
  | [], _ => []
  | x :: r, first => (if first then x else 32 :: x) ++ glueL r false
theorem glue_join : ∀ (r : List (List UInt8)), glueL r false = Lib.joinTail [32] r
  | [] => rfl
  | x :: r => by
    unfold glueL
    rw [glue_join r]
    simp [Lib.joinTail]
theorem glue_join' : ∀ (r : List (List UInt8)), glueL r true = Lib.join r [32]
  | [] => rfl
  | x :: r => by
    unfold glueL
    rw [glue_join r, Lib.join_cons]
    rfl
theorem glueL_len : ∀ (r : List (List UInt8)) (b : Bool), (∀ x ∈ r, x.length ≤ 100) → (glueL r b).length ≤ 101 * r.length
  | [], _, _ => by simp [glueL]
  | x :: r, b, h => by
    have ih := glueL_len r false (fun y hy => h y (List.mem_cons_of_mem _ hy))
    have hx := h x List.mem_cons_self
    unfold glueL
    rw [List.length_append]
    have : (if b then x else 32 :: x).length ≤ 101 := by
      split
      · omega
      · simp; omega
    simp only [List.length_cons]; omega
theorem glue_l0 (L : List (List UInt8)) (hL : L.length ≤ 20) (hx : ∀ x ∈ L, x.length ≤ 100) : ∀ (d i : Nat) (t : List UInt8), L.length - i = d → i ≤ L.length → t.length ≤ 101 * i →
    Ev (fun k => entailref1_Glue.l0 k (L.map B) (⟨#[32]⟩ : ByteArray) (B t) (i : Int)) (B (t ++ glueL (L.drop i) (i == 0)))
  | 0, i, t, hd, hi, ht => by
    rw [List.drop_eq_nil_of_le (by omega)]
    refine Ev.step (g := fun _ => some (B t)) (fun k => ?_) (by simp only [glueL, List.append_nil]; exact Ev.pure _)
    conv => lhs; unfold entailref1_Glue.l0
    rw [if_neg (by rw [List.length_map]; omega)]
  | d + 1, i, t, hd, hi, ht => by
    have h : i < L.length := by omega
    have hd0 : L.drop i = L[i] :: L.drop (i + 1) := List.drop_eq_getElem_cons h
    have he : rdOf ByteArray.empty (L.map B) (i : Int) = B L[i] := by
      unfold rdOf
      rw [Int.toNat_natCast, List.getD_eq_getElem?_getD, List.getElem?_map, List.getElem?_eq_getElem h]; rfl
    have hx1 := hx L[i] (List.getElem_mem h)
    generalize L[i] = x at hd0 he hx1
    rw [hd0]
    have hs : (⟨#[32]⟩ : ByteArray) = B [32] := rfl
    by_cases h0 : i = 0
    · have ih := glue_l0 L hL hx d (i + 1) (t ++ x) (by omega) (by omega) (by rw [List.length_append]; omega)
      rw [show (i + 1 == 0) = false by simp] at ih
      have e : t ++ glueL (x :: L.drop (i + 1)) (i == 0) = t ++ x ++ glueL (L.drop (i + 1)) false := by
        rw [h0]; simp [glueL]
      rw [e]
      refine Ev.step (fun k => ?_) ih
      conv => lhs; unfold entailref1_Glue.l0
      rw [if_pos (by rw [List.length_map]; omega), if_neg (by omega), if_pos (by omega), he, if_pos (by rw [B_size, B_size]; omega), B_app, nat_wrap1 (by omega)]
    · have ih := glue_l0 L hL hx d (i + 1) (t ++ 32 :: x) (by omega) (by omega) (by rw [List.length_append]; simp; omega)
      rw [show (i + 1 == 0) = false by simp] at ih
      have e : t ++ glueL (x :: L.drop (i + 1)) (i == 0) = t ++ 32 :: x ++ glueL (L.drop (i + 1)) false := by
        have : (i == 0) = false := by simpa using h0
        rw [this]; simp [glueL]
      rw [e]
      refine Ev.step (fun k => ?_) ih
      conv => lhs; unfold entailref1_Glue.l0
      rw [if_pos (by rw [List.length_map]; omega), if_pos (by omega), hs, B_app, if_pos (by rw [B_size, B_size]; simp; omega), if_pos (by omega), he, if_pos (by rw [B_size, B_size]; simp; omega), B_app, nat_wrap1 (by omega)]
      rw [show t ++ [32] ++ x = t ++ 32 :: x by simp]
theorem glue_ev (L : List (List UInt8)) (hL : L.length ≤ 20) (hx : ∀ x ∈ L, x.length ≤ 100) : Ev (fun k => entailref1_Glue.f k (L.map B) (⟨#[32]⟩ : ByteArray)) (B (Lib.join L [32])) := by
  have := glue_l0 L hL hx L.length 0 [] rfl (Nat.zero_le _) (by simp)
  rw [List.drop_zero, List.nil_append, show ((0 : Nat) == 0) = true from rfl, glue_join'] at this
  exact this
theorem map_B (L : List ByteArray) : (L.map (·.data.toList)).map B = L := by
  rw [List.map_map]
  conv => rhs; rw [← List.map_id L]
  congr 1
theorem join_f (L : List (List UInt8)) (hL : L.length ≤ 20) (hx : ∀ x ∈ L, x.length ≤ 100) : line_Join.f (L.map B) = some (B (Lib.join L [32])) := by
  have hb := glueL_len L true hx
  rw [glue_join'] at hb
  have e : (L.map B).map (·.data.toList) = L := by
    rw [List.map_map]
    conv => rhs; rw [← List.map_id L]
    congr 1
  unfold line_Join.f strings_Join.f
  rw [e, if_pos (by rw [List.length_map]; omega), if_pos (by show (Lib.join L [32]).length ≤ _; omega)]
  rfl

/-! ### The law -/
theorem tells_l1 (L : List (List UInt8)) (hL : L.length ≤ 20) (hx : ∀ x ∈ L, x.length ≤ 100) : ∀ (d i : Nat) (s : ByteArray), 2 - i = d → i ≤ 2 → s.size ≤ 2000 → Ev (fun k => entaillaw12_LineTells.l1 k s (L.map B) (i : Int)) true
  | 0, i, s, hd, hi, hs => by
    refine Ev.step (g := fun k => (entailref1_Glue.f k (L.map B) (⟨#[32]⟩ : ByteArray)).bind fun t167 => (if (B (Lib.join L [32])).toList = t167.toList then ((entaillaw12_awake.f k).bind fun t168 => (some t168)) else (some false))) (fun k => ?_) ?_
    · conv => lhs; unfold entaillaw12_LineTells.l1
      rw [if_neg (by omega), join_f L hL hx]; rfl
    · refine Ev.bind (glue_ev L hL hx) ?_
      refine Ev.congr (fun k => if_pos rfl) ?_
      exact Ev.bind awake_ev (Ev.pure _)
  | d + 1, i, s, hd, hi, hs => by
    have hsl : s.data.toList.length = s.size := Array.length_toList
    obtain ⟨u, hu, ht⟩ := tame_ev s
    have ih := tells_l1 L hL hx d (i + 1) u (by omega) (by omega) (by omega)
    have a := Lines_ev s.data.toList
    have b := rLines_ev s.data.toList (by omega)
    rw [B_of] at a b
    have c := same_ev (spec s.data.toList).1 _ (by omega) (spec_tame s.data.toList)
    refine Ev.step (g := fun k => (line_Lines.f k s).bind fun bt169 => ((entailref1_Lines.f k s).bind fun bt174 => ((entaillaw12_Same.f k bt169.1 bt174.1).bind fun t179 => (if t179 = true then (if bt169.2.1 = bt174.2.1 then (if bt169.2.2 = bt174.2.2 then ((entaillaw12_Tame.f k s).bind fun t180 => (entaillaw12_LineTells.l1 k t180 (L.map B) (wrap64 ((i : Int) + 1)))) else (some false)) else (some false)) else (some false))))) (fun k => ?_) ?_
    · conv => lhs; unfold entaillaw12_LineTells.l1
      rw [if_pos (by omega)]
    · refine Ev.bind a (Ev.bind b (Ev.bind c ?_))
      refine Ev.congr (g := fun k => (entaillaw12_Tame.f k s).bind fun t180 => (entaillaw12_LineTells.l1 k t180 (L.map B) ((i + 1 : Nat) : Int))) (fun k => ?_) (Ev.bind ht ih)
      rw [if_pos rfl, if_pos rfl, if_pos rfl, nat_wrap1 (by omega)]
theorem tells_l0 (s : ByteArray) (hs : s.size ≤ 2000) (L : List (List UInt8)) (hL : L.length ≤ 20) : ∀ (d i : Nat), L.length - i = d → i ≤ L.length → (∀ x ∈ L.take i, x.length ≤ 100) →
    Ev (fun k => entaillaw12_LineTells.l0 k s (L.map B) (i : Int)) true
  | 0, i, hd, hi, hx => by
    rw [List.take_of_length_le (by omega)] at hx
    refine Ev.step (fun k => ?_) (tells_l1 L hL hx 2 0 s rfl (by omega) hs)
    conv => lhs; unfold entaillaw12_LineTells.l0
    rw [if_neg (by rw [List.length_map]; omega)]
    rfl
  | d + 1, i, hd, hi, hx => by
    have h : i < L.length := by omega
    have he : rdOf ByteArray.empty (L.map B) (i : Int) = B L[i] := by
      unfold rdOf
      rw [Int.toNat_natCast, List.getD_eq_getElem?_getD, List.getElem?_map, List.getElem?_eq_getElem h]; rfl
    by_cases hb : L[i].length ≤ 100
    · refine Ev.step (fun k => ?_) (tells_l0 s hs L hL d (i + 1) (by omega) (by omega) (fun x hxm => ?_))
      · conv => lhs; unfold entaillaw12_LineTells.l0
        rw [if_pos (by rw [List.length_map]; omega), if_pos (by omega), he, if_neg (by rw [B_size]; omega), nat_wrap1 (by omega)]
      · rw [List.take_add_one, List.getElem?_eq_getElem h] at hxm
        rcases List.mem_append.1 hxm with hm | hm
        · exact hx x hm
        · simp at hm; subst hm; exact hb
    · refine Ev.step (g := fun k => (entaillaw12_awake.f k).bind fun t165 => (some t165)) (fun k => ?_) (Ev.bind awake_ev (Ev.pure _))
      conv => lhs; unfold entaillaw12_LineTells.l0
      rw [if_pos (by rw [List.length_map]; omega), if_pos (by omega), he, if_pos (by rw [B_size]; omega)]
theorem LineTells_ev (s : ByteArray) (l : List ByteArray) : Ev (fun k => entaillaw12_LineTells.f k s l) true := by
  have stop : Ev (fun k => entaillaw12_LineTells.j0 k s l true) true := by
    refine Ev.step (g := fun k => (entaillaw12_awake.f k).bind fun t163 => (some t163)) (fun k => ?_) (Ev.bind awake_ev (Ev.pure _))
    rw [entaillaw12_LineTells.j0]; rfl
  by_cases h1 : (s.size : Int) > 2000
  · refine Ev.congr (fun k => ?_) stop
    unfold entaillaw12_LineTells.f
    rw [if_pos h1]
  · by_cases h2 : (l.length : Int) > 20
    · refine Ev.congr (fun k => ?_) stop
      unfold entaillaw12_LineTells.f
      rw [if_neg h1, decide_eq_true h2]
    · have g := tells_l0 s (by omega) (l.map (·.data.toList)) (by rw [List.length_map]; omega) _ 0 rfl (Nat.zero_le _) (by simp)
      rw [map_B] at g
      refine Ev.congr (g := fun k => entaillaw12_LineTells.j0 k s l false) (fun k => ?_) (Ev.step (fun k => ?_) g)
      · unfold entaillaw12_LineTells.f
        rw [if_neg h1, decide_eq_false h2]
      · rw [entaillaw12_LineTells.j0]; rfl
theorem LineTells_walk (a0 : ByteArray) (A1 : Option Addr) (c1 : Nat) (l1 : List ByteArray) (w : World) (w0 : a0.size ≤ 140737488351232) (w1 : Kd.C Kd.string w A1 l1.length l1 ∧ l1.length ≤ c1) (q1 : ∀ x ∈ l1, x.size ≤ maxLen) :
    Calls Tryd.prog 4 #[.string a0, .slice A1 l1.length c1] w fun e w' => e = .returned (.bool true) ∧ Below w.heap.size w w' := by
  obtain ⟨k, h⟩ := (LineTells_ev a0 l1).ex
  exact entaillaw12_LineTells.calls k a0 A1 c1 l1 true w w1.1 w1.2 h
end Go.Proofs.YtamgobcahgcejaaDoor.Pure
