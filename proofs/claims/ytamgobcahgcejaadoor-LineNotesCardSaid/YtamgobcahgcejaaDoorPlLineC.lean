/- The plain law of entail/line: what a text's lines are; no program in sight, no condition. -/
import Derived.Test.YtamgobcahgcejaaDoorGCx8
namespace Go.Proofs.YtamgobcahgcejaaDoor.PureN
open Go.RowKit Go.Proofs.YtamgobcahgcejaaDoorSeq Go.Proofs.YtamgobcahgcejaaDoor.GC Go.Proofs.YtamgobcahgcejaaDoorW.PrintWords Go.Proofs.YtamgobcahgcejaaDoorW.PrintLast Go.Proofs.YtamgobcahgcejaaDoorW.PrintMore
set_option linter.unusedVariables false
set_option linter.unusedSimpArgs false

/-! ### What a function with rounds answers, from some number of rounds on -/
def Ev {α : Type} (f : Nat → Option α) (v : α) : Prop := ∃ K, ∀ k, K ≤ k → f k = some v
theorem Ev.pure {α : Type} (v : α) : Ev (fun _ => some v) v := ⟨0, fun _ _ => rfl⟩
theorem Ev.of {α : Type} {f : Nat → Option α} {v : α} (e : ∀ k, f k = some v) : Ev f v := ⟨0, fun k _ => e k⟩
theorem Ev.bind {α β : Type} {f : Nat → Option α} {a : α} {h : Nat → α → Option β} {v : β} (hf : Ev f a) (hh : Ev (fun k => h k a) v) : Ev (fun k => (f k).bind (h k)) v := by
  obtain ⟨K, hK⟩ := hf
  obtain ⟨M, hM⟩ := hh
  refine ⟨max K M, fun k hk => ?_⟩
  show (f k).bind (h k) = some v
  rw [hK k (by omega)]
  exact hM k (by omega)
theorem Ev.step {α : Type} {f g : Nat → Option α} {v : α} (e : ∀ k, f (k + 1) = g k) (h : Ev g v) : Ev f v := by
  obtain ⟨K, hK⟩ := h
  refine ⟨K + 1, fun k hk => ?_⟩
  obtain ⟨j, rfl⟩ : ∃ j, k = j + 1 := ⟨k - 1, by omega⟩
  rw [e, hK j (by omega)]
theorem Ev.congr {α : Type} {f g : Nat → Option α} {v : α} (e : ∀ k, f k = g k) (h : Ev g v) : Ev f v := by
  obtain ⟨K, hK⟩ := h
  exact ⟨K, fun k hk => by rw [e, hK k hk]⟩
theorem Ev.ex {α : Type} {f : Nat → Option α} {v : α} (h : Ev f v) : ∃ k, f k = some v := by
  obtain ⟨K, hK⟩ := h
  exact ⟨K, hK K (Nat.le_refl _)⟩

/-! ### Bytes -/
def B (l : List UInt8) : ByteArray := ⟨l.toArray⟩
theorem B_size (l : List UInt8) : (B l).size = l.length := by simp [B, ByteArray.size]
theorem B_list (l : List UInt8) : (B l).data.toList = l := by simp [B]
theorem B_of (s : ByteArray) : B s.data.toList = s := by simp [B]
theorem B_inj {a b : List UInt8} (h : B a = B b) : a = b := by
  have := congrArg (fun s => s.data.toList) h
  simpa [B_list] using this
theorem B_cut (l : List UInt8) (i j : Nat) : (B l).extract i j = B ((l.drop i).take (j - i)) := by
  have := Lib.extract_eq (B l) i j
  rw [B_list] at this
  exact this
theorem B_app (a b : List UInt8) : B a ++ B b = B (a ++ b) := by
  have : (B a ++ B b).data = (B (a ++ b)).data := by
    rw [ByteArray.data_append]; simp [B]
  cases h : B a ++ B b with
  | mk d => rw [h] at this; simp only at this; rw [this]
theorem bt_B (l : List UInt8) (i : Nat) : bt (B l) (i : Int) = ((l.getD i 0).toNat : Int) := by
  unfold bt
  simp only [Int.toNat_natCast, B_size]
  split
  · rename_i h
    rw [List.getD_eq_getElem?_getD, List.getElem?_eq_getElem h]
    rfl
  · rename_i h
    rw [List.getD_eq_getElem?_getD, List.getElem?_eq_none (by omega)]
    rfl
theorem drop_cons {l : List UInt8} {i : Nat} (h : i < l.length) : l.drop i = l.getD i 0 :: l.drop (i + 1) := by
  rw [List.drop_eq_getElem_cons h, List.getD_eq_getElem?_getD, List.getElem?_eq_getElem h]
  rfl
theorem wrap_small {n : Int} (h0 : -9223372036854775808 ≤ n) (h : n ≤ 9223372036854775807) : wrap64 n = n := IntWalk.wrap64_in n ⟨h0, h⟩
theorem wrap_nat {n : Nat} (h : n ≤ 9223372036854775807) : wrap64 (n : Int) = n := wrap_small (by omega) (by omega)

/-! ### What stands where -/
def blank (c : UInt8) : Bool := c = 32 ∨ c = 9
def good (c : UInt8) : Bool := c = 9 ∨ 32 ≤ c.toNat ∧ c.toNat ≤ 126
def fw : List UInt8 → Option Nat
  | [] => none
  | c :: l => if good c then (fw l).map (· + 1) else some 0
def bareL (p : List UInt8) : List UInt8 := if p.getLast? = some 13 then p.dropLast else p
def Wd : Nat → List UInt8 → Int → List S34
  | 0, _, _ => []
  | n + 1, [], _ => []
  | n + 1, c :: r, at_ => if blank c then Wd n r (at_ + 1) else if c = 35 then [] else
      (⟨B ((c :: r).takeWhile (fun x => !blank x)), at_⟩ : S34) :: Wd n ((c :: r).dropWhile (fun x => !blank x)) (at_ + (((c :: r).takeWhile (fun x => !blank x)).length : Int))
def Ws (l : List UInt8) (at_ : Int) : List S34 := Wd l.length l at_
def put (out : List S32) (ws : List S34) : List S32 := if 0 < ws.length then out ++ [(⟨(rd_T34 ws 0).f1, ws⟩ : S32)] else out
def lg : List (List UInt8) → List S32 → Int → List S32
  | [], out, _ => out
  | p :: r, out, at_ => lg r (put out (Ws (bareL p) at_)) (at_ + (p.length : Int) + 1)
def pw : List (List UInt8) → Nat → Option Nat
  | [], _ => none
  | p :: r, at_ => match fw (bareL p) with | some j => some (at_ + j) | none => pw r (at_ + p.length + 1)
def spec (l : List UInt8) : List S32 × Int × Int :=
  if 200000 < l.length then ([], 0, 8) else if 5000 < l.count 10 then ([], 0, 8) else
    match pw (splitL 10 l) 0 with
    | some j => ([], (j : Int), 7)
    | none => (lg (splitL 10 l) [] 0, 0, 0)

/-! ### entail/line: wrong -/
theorem toNat_eq (c : UInt8) (n : UInt8) : ((c.toNat : Int) = (n.toNat : Int)) ↔ c = n := by
  constructor
  · intro h; exact UInt8.toNat_inj.1 (by omega)
  · rintro rfl; rfl
theorem toNat_is (c : UInt8) (n : UInt8) {m : Int} (h : (n.toNat : Int) = m) : ((c.toNat : Int) = m) ↔ c = n := by rw [← h]; exact toNat_eq c n
theorem wrong_l0 (l : List UInt8) (hl : l.length < 4611686018427387904) : ∀ (d i : Nat), l.length - i = d → i ≤ l.length →
    Ev (fun k => line_wrong.l0 k (B l) (l.length : Int) (i : Int)) (match fw (l.drop i) with | some j => ((i + j : Nat) : Int) | none => -1)
  | 0, i, hd, hi => by
    have e : l.drop i = [] := List.drop_eq_nil_of_le (by omega)
    rw [e]
    refine Ev.step (g := fun _ => some (-1)) (fun k => ?_) (Ev.pure _)
    unfold line_wrong.l0
    rw [if_neg (by omega)]
  | d + 1, i, hd, hi => by
    have h : i < l.length := by omega
    have ih := wrong_l0 l hl d (i + 1) (by omega) (by omega)
    rw [drop_cons h]
    have hb := bt_B l i
    generalize hc : l.getD i 0 = c at hb ⊢
    have hw : wrap64 ((i : Int) + 1) = ((i + 1 : Nat) : Int) := by rw [wrap_small (by omega) (by omega)]; omega
    have stepk : ∀ k, line_wrong.l0 (k + 1) (B l) (l.length : Int) (i : Int) = line_wrong.j1 k (B l) (i : Int) (l.length : Int) (i : Int) (!(good c)) := by
      intro k
      conv => lhs; unfold line_wrong.l0
      rw [if_pos (by omega), if_pos (by omega), if_pos (by rw [B_size]; omega), hb]
      by_cases h9 : c = 9
      · subst h9; simp [good]
      · have h9' : ¬ ((c.toNat : Int) = 9) := fun h => h9 ((toNat_eq c 9).1 h)
        rw [if_neg h9']
        by_cases h32 : (c.toNat : Int) < 32
        · have e : good c = false := by simp [good, h9]; omega
          rw [if_pos h32, e]; rfl
        · have e : good c = decide (c.toNat ≤ 126) := by simp [good, h9]; omega
          rw [if_neg h32, e]
          congr 1
          by_cases h126 : (c.toNat : Int) > 126
          · rw [decide_eq_true h126, decide_eq_false (by omega)]; rfl
          · rw [decide_eq_false h126, decide_eq_true (by omega)]; rfl
    have stepj : ∀ k, line_wrong.j1 (k + 1) (B l) (i : Int) (l.length : Int) (i : Int) (!(good c)) = if good c then line_wrong.l0 k (B l) (l.length : Int) ((i + 1 : Nat) : Int) else some (i : Int) := by
      intro k
      conv => lhs; unfold line_wrong.j1
      rw [hw]
      cases good c <;> rfl
    unfold fw
    by_cases hg : good c
    · simp only [hg, if_true, Bool.not_true] at stepk stepj ⊢
      refine Ev.step stepk (Ev.step stepj ?_)
      cases hf : fw (l.drop (i + 1)) with
      | none => simp only [hf] at ih ⊢; exact ih
      | some j => simp only [hf, Option.map_some] at ih ⊢; rw [show i + (j + 1) = i + 1 + j by omega]; exact ih
    · simp only [hg, if_false, Bool.false_eq_true] at stepk stepj ⊢
      exact Ev.step stepk (Ev.step stepj (by rw [Nat.add_zero]; exact Ev.pure _))
theorem wrong_f (l : List UInt8) (hl : l.length < 4611686018427387904) : Ev (fun k => line_wrong.f k (B l)) (match fw l with | some j => (j : Int) | none => -1) := by
  have := wrong_l0 l hl l.length 0 rfl (Nat.zero_le _)
  simp only [List.drop_zero, Nat.zero_add] at this
  refine Ev.congr (fun k => ?_) this
  unfold line_wrong.f
  rw [B_size]; rfl

/-! ### entail/line: bare -/
theorem getLast_take (l : List UInt8) (h : l ≠ []) : (l.drop (l.length - 1)) = [l.getLast h] := by
  have hp := List.length_pos_iff.2 h
  rw [List.drop_eq_getElem_cons (by omega), List.drop_eq_nil_of_le (by omega), List.getLast_eq_getElem]
theorem bare_f (l : List UInt8) (hl : l.length < 4611686018427387904) : line_bare.f (B l) = some (B (bareL l)) := by
  have suf : stringslite_HasSuffix.f (B l) (⟨#[13]⟩ : ByteArray) = some (decide (l.getLast? = some 13)) := by
    unfold stringslite_HasSuffix.f
    rw [B_size]
    have e1 : ((⟨#[13]⟩ : ByteArray).size : Int) = 1 := rfl
    rw [e1]
    cases l with
    | nil => simp
    | cons c r =>
      have hn : (((c :: r).length : Nat) : Int) ≥ 1 := by simp; omega
      rw [if_pos hn, wrap_small (by omega) (by omega), if_pos (by omega), if_pos (by omega)]
      congr 1
      have e2 : ((((c :: r).length : Nat) : Int) - 1).toNat = (c :: r).length - 1 := by omega
      rw [e2, B_cut]
      have e3 : (c :: r).drop ((c :: r).length - 1) = [(c :: r).getLast (by simp)] := getLast_take _ (by simp)
      rw [e3, List.take_of_length_le (by simp), List.getLast?_eq_some_getLast (by simp)]
      have e4 : (B [(c :: r).getLast (by simp)]).toList = [(c :: r).getLast (by simp)] := (Lib.toList_data _).trans (B_list _)
      rw [e4, show ({ data := #[13] } : ByteArray).toList = [13] from Lib.toList_data _]
      by_cases hx : (c :: r).getLast (by simp) = 13 <;> simp [hx]
  unfold line_bare.f strings_TrimSuffix.f stringslite_TrimSuffix.f
  rw [suf]
  simp only [Option.bind_some, B_size]
  have e1 : ((⟨#[13]⟩ : ByteArray).size : Int) = 1 := rfl
  rw [e1]
  unfold bareL
  by_cases h : l.getLast? = some 13
  · have hne : l ≠ [] := by rintro rfl; simp at h
    have hpos : 0 < l.length := List.length_pos_iff.2 hne
    simp only [h, decide_true, if_true]
    rw [wrap_small (by omega) (by omega), if_pos (by omega), if_pos (by omega)]
    simp only [Option.bind_some]
    rw [B_cut, List.dropLast_eq_take]
    rw [List.drop_zero]
    congr 3
    omega
  · simp [h]

/-! ### Words -/
def nb (x : UInt8) : Bool := !blank x
theorem tw_len_le (l : List UInt8) : (l.takeWhile nb).length ≤ l.length := List.Sublist.length_le (List.takeWhile_sublist nb)
theorem tw_take : ∀ (l : List UInt8), l.take (l.takeWhile nb).length = l.takeWhile nb
  | [] => rfl
  | c :: r => by
    have ih := tw_take r
    by_cases h : nb c
    · simp [List.takeWhile_cons, h, ih]
    · simp [List.takeWhile_cons, h]
theorem tw_drop (l : List UInt8) : l.drop (l.takeWhile nb).length = l.dropWhile nb := by
  induction l with
  | nil => rfl
  | cons c r ih =>
    by_cases h : nb c
    · simp [List.takeWhile_cons, List.dropWhile_cons, h, ih]
    · simp [List.takeWhile_cons, List.dropWhile_cons, h]
theorem idx_tw : ∀ (l : List UInt8), line_words.len (B l) = ((l.takeWhile nb).length : Int)
  | [] => by decide
  | c :: r => by
    have ih := idx_tw r
    have a := Lib.indexByte_ge r 32
    have b := Lib.indexByte_ge r 9
    have a' := indexByte_less r 32
    have b' := indexByte_less r 9
    unfold line_words.len at ih ⊢
    rw [B_list, B_size] at ih ⊢
    rw [List.takeWhile_cons]
    by_cases h : blank c
    · have hn : nb c = false := by simp [nb, h]
      rw [hn]
      simp only [Bool.false_eq_true, if_false, List.length_nil]
      have hc : c = 32 ∨ c = 9 := by simpa [blank] using h
      rcases hc with rfl | rfl
      · have e1 : Lib.indexByte (32 :: r) 32 = 0 := by simp [Lib.indexByte]
        rw [e1, if_neg (by omega)]
        split
        · rw [if_neg (by omega)]; rfl
        · rfl
      · have e1 : Lib.indexByte (9 :: r) 9 = 0 := by simp [Lib.indexByte]
        have e2 : Lib.indexByte (9 :: r) 32 = if Lib.indexByte r 32 == -1 then -1 else Lib.indexByte r 32 + 1 := by simp [Lib.indexByte]
        rw [e1, e2]
        by_cases hx : Lib.indexByte r 32 = -1
        · simp [hx]
        · have hx' : (Lib.indexByte r 32 == -1) = false := by simpa using hx
          rw [hx']
          simp only [Bool.false_eq_true, if_false]
          rw [if_neg (by omega), if_pos (by omega), if_pos (by omega)]; rfl
    · have hn : nb c = true := by simp [nb, h]
      have hc : ¬ c = 32 ∧ ¬ c = 9 := by simpa [blank] using h
      rw [hn]
      simp only [if_true, List.length_cons]
      have e1 : Lib.indexByte (c :: r) 32 = if Lib.indexByte r 32 == -1 then -1 else Lib.indexByte r 32 + 1 := by simp [Lib.indexByte, hc.1]
      have e2 : Lib.indexByte (c :: r) 9 = if Lib.indexByte r 9 == -1 then -1 else Lib.indexByte r 9 + 1 := by simp [Lib.indexByte, hc.2]
      rw [e1, e2]
      by_cases hx : Lib.indexByte r 32 = -1
      · by_cases hy : Lib.indexByte r 9 = -1
        · simp only [hx, hy] at ih ⊢
          simp at ih ⊢
          omega
        · simp only [hx] at ih ⊢
          rw [if_pos (by omega), if_neg (by omega)] at ih
          simp [hy]
          rw [if_neg (by omega)]
          omega
      · by_cases hy : Lib.indexByte r 9 = -1
        · simp only [hy] at ih ⊢
          rw [if_neg (by omega), if_neg (by omega)] at ih
          simp [hx]
          rw [if_neg (by omega)]
          omega
        · rw [if_neg (by omega), if_pos (by omega)] at ih
          simp only [beq_iff_eq, hx, hy, if_false]
          rw [if_neg (by omega), if_pos (by omega)]
          by_cases hz : Lib.indexByte r 9 < Lib.indexByte r 32
          · rw [if_pos hz] at ih; rw [if_pos (by omega)]; omega
          · rw [if_neg hz] at ih; rw [if_neg (by omega)]; omega
theorem Wd_nil (n : Nat) (a : Int) : Wd n [] a = [] := by cases n <;> rfl
theorem blank_idx (c : UInt8) : (0 ≤ Lib.indexByte [32, 9] c) ↔ blank c := by
  unfold blank
  simp only [Lib.indexByte]
  by_cases h : c = 32
  · subst h; simp
  · by_cases h9 : c = 9
    · subst h9; simp
    · have a1 : ((32 : UInt8) == c) = false := by simpa using fun e => h e.symm
      have a2 : ((9 : UInt8) == c) = false := by simpa using fun e => h9 e.symm
      simp [a1, a2, h, h9]
theorem words_l0 (l : List UInt8) (at_ : Int) (h0 : 0 ≤ at_) (hat : at_ + l.length < 4611686018427387904) : ∀ (d i : Nat) (out : List S34), l.length - i ≤ d → i ≤ l.length → out.length + l.length - i < 5864062014805 →
    Ev (fun k => line_words.l0 k (B l) at_ out i) (out ++ Wd d (l.drop i) (at_ + i))
  | 0, i, out, hd, hi, ho => by
    rw [List.drop_eq_nil_of_le (by omega), Wd_nil, List.append_nil]
    refine Ev.step (g := fun _ => some out) (fun k => ?_) (Ev.pure _)
    unfold line_words.l0
    rw [if_neg (by rw [B_size]; omega)]
  | d + 1, i, out, hd, hi, ho => by
    by_cases h : i < l.length
    · have cut : (B l).extract i (B l).size = B (l.drop i) := by
        rw [B_cut, B_size, List.take_of_length_le (by simp)]
      have hd0 := drop_cons h
      generalize hc : l.getD i 0 = c at hd0
      have stepk : ∀ k, line_words.l0 (k + 1) (B l) at_ out i = if blank c then line_words.l0 k (B l) at_ out (i + 1) else if c = 35 then some out else
          line_words.l0 k (B l) at_ (out ++ [(⟨B ((l.drop i).takeWhile nb), at_ + i⟩ : S34)]) (i + ((l.drop i).takeWhile nb).length) := by
        intro k
        conv => lhs; unfold line_words.l0
        rw [if_pos (by rw [B_size]; exact h), cut, idx_tw, B_list]
        have g0 : (l.drop i).getD 0 0 = c := by rw [hd0]; rfl
        have g1 : bt (B (l.drop i)) 0 = (c.toNat : Int) := by
          have := bt_B (l.drop i) 0
          rw [g0] at this
          exact this
        rw [g0, g1, B_cut, wrap_small (by omega) (by omega)]
        by_cases hb : blank c
        · rw [if_pos ((blank_idx c).2 hb), if_pos hb]
        · rw [if_neg (fun hh => hb ((blank_idx c).1 hh)), if_neg hb]
          by_cases h35 : c = 35
          · rw [if_pos ((toNat_is c 35 (m := 35) rfl).2 h35), if_pos h35]
          · rw [if_neg (fun hh => h35 ((toNat_is c 35 (m := 35) rfl).1 hh)), if_neg h35, if_pos (by omega)]
            simp only [List.drop_zero, Nat.sub_zero, Int.toNat_natCast]
            rw [tw_take]
      refine Ev.step stepk ?_
      have hW : Wd (d + 1) (l.drop i) (at_ + i) = if blank c then Wd d (l.drop (i + 1)) (at_ + i + 1) else if c = 35 then [] else
          (⟨B ((l.drop i).takeWhile nb), at_ + i⟩ : S34) :: Wd d ((l.drop i).dropWhile nb) (at_ + i + (((l.drop i).takeWhile nb).length : Int)) := by
        rw [hd0]; rfl
      rw [hW]
      by_cases hb : blank c
      · simp only [hb, if_true]
        have := words_l0 l at_ h0 hat d (i + 1) out (by omega) (by omega) (by omega)
        rw [show at_ + (i : Int) + 1 = at_ + ((i + 1 : Nat) : Int) by omega]
        exact this
      · by_cases h35 : c = 35
        · rw [if_neg hb, if_pos h35, List.append_nil]
          exact Ev.of (fun k => by rw [if_neg hb, if_pos h35])
        · simp only [hb, h35, if_false, Bool.false_eq_true]
          have hm : 0 < ((l.drop i).takeWhile nb).length := by
            rw [hd0, List.takeWhile_cons]
            simp [nb, hb]
          have hm2 := tw_len_le (l.drop i)
          rw [List.length_drop] at hm2
          have := words_l0 l at_ h0 hat d (i + ((l.drop i).takeWhile nb).length) (out ++ [(⟨B ((l.drop i).takeWhile nb), at_ + i⟩ : S34)]) (by omega) (by omega) (by simp; omega)
          rw [List.append_assoc, ← List.drop_drop, tw_drop] at this
          rw [show at_ + (i : Int) + (((l.drop i).takeWhile nb).length : Int) = at_ + ((i + ((l.drop i).takeWhile nb).length : Nat) : Int) by omega]
          exact this
    · rw [List.drop_eq_nil_of_le (by omega), Wd_nil, List.append_nil]
      refine Ev.step (g := fun _ => some out) (fun k => ?_) (Ev.pure _)
      unfold line_words.l0
      rw [if_neg (by rw [B_size]; omega)]
theorem words_f (l : List UInt8) (at_ : Int) (h0 : 0 ≤ at_) (hat : at_ + l.length < 4000000000000) : Ev (fun k => line_words.f k (B l) at_) (Ws l at_) := by
  have := words_l0 l at_ h0 (by omega) l.length 0 [] (by omega) (by omega) (by simp; omega)
  rw [List.nil_append, List.drop_zero, Int.natCast_zero, Int.add_zero] at this
  refine Ev.congr (fun k => ?_) this
  unfold line_words.f
  rw [if_pos (by rw [B_size]; omega)]

/-! ### entail/line: Lines -/
def lp : List (List UInt8) → List S32 → Int → List S32 × Int × Int
  | [], out, _ => (out, 0, 0)
  | p :: r, out, at_ => match fw (bareL p) with
    | some j => ([], at_ + (j : Int), 7)
    | none => lp r (put out (Ws (bareL p) at_)) (at_ + (p.length : Int) + 1)
def total : List (List UInt8) → Nat
  | [] => 0
  | p :: r => p.length + 1 + total r
theorem bareL_le (p : List UInt8) : (bareL p).length ≤ p.length := by
  unfold bareL; split
  · rw [List.length_dropLast]; omega
  · exact Nat.le_refl _
theorem fw_lt : ∀ (l : List UInt8) (j : Nat), fw l = some j → j < l.length
  | [], j, h => by simp [fw] at h
  | c :: l, j, h => by
    unfold fw at h
    split at h
    · cases hf : fw l with
      | none => rw [hf] at h; simp at h
      | some q => rw [hf] at h; simp at h; have := fw_lt l q hf; simp; omega
    · simp at h; simp; omega
theorem go_ev : ∀ (P : List (List UInt8)) (out : List S32) (at_ : Int), 0 ≤ at_ → at_ + total P < 4000000000000 →
    Ev (fun k => line_Lines.go k (P.map B) out at_) (lp P out at_)
  | [], out, at_, _, _ => Ev.of (fun k => rfl)
  | p :: r, out, at_, h0, h1 => by
    have hb := bareL_le p
    unfold total at h1
    have e : ∀ k, line_Lines.go k ((p :: r).map B) out at_ = (line_wrong.f k (B (bareL p))).bind fun q =>
        if 0 ≤ q then some ([], wrap64 (at_ + q), 7)
        else (line_words.f k (B (bareL p)) at_).bind fun ws =>
          if 0 < ws.length then line_Lines.go k (r.map B) (out ++ [(⟨(rd_T34 ws 0).f1, ws⟩ : S32)]) (wrap64 (at_ + wrap64 (((B p).size : Int) + 1)))
          else line_Lines.go k (r.map B) out (wrap64 (at_ + wrap64 (((B p).size : Int) + 1))) := by
      intro k
      rw [List.map_cons, line_Lines.go, bare_f p (by omega)]
      rfl
    refine Ev.congr e ?_
    refine Ev.bind (wrong_f (bareL p) (by omega)) ?_
    unfold lp
    cases hf : fw (bareL p) with
    | some j =>
      have hj := fw_lt _ _ hf
      refine Ev.of fun k => ?_
      rw [if_pos (by simp only; omega)]
      rw [wrap_small (by simp only; omega) (by simp only; omega)]
    | none =>
      simp only
      refine Ev.congr (g := fun k => (line_words.f k (B (bareL p)) at_).bind fun ws =>
          if 0 < ws.length then line_Lines.go k (r.map B) (out ++ [(⟨(rd_T34 ws 0).f1, ws⟩ : S32)]) (wrap64 (at_ + wrap64 (((B p).size : Int) + 1)))
          else line_Lines.go k (r.map B) out (wrap64 (at_ + wrap64 (((B p).size : Int) + 1)))) (fun k => by rw [if_neg (by decide)]) ?_
      refine Ev.bind (words_f (bareL p) at_ h0 (by omega)) ?_
      rw [B_size, wrap_small (n := (p.length : Int) + 1) (by omega) (by omega), wrap_small (by omega) (by omega)]
      rw [show at_ + ((p.length : Int) + 1) = at_ + (p.length : Int) + 1 by omega]
      have ih := go_ev r (put out (Ws (bareL p) at_)) (at_ + (p.length : Int) + 1) (by omega) (by omega)
      refine Ev.congr (fun k => ?_) ih
      unfold put
      split <;> rfl
theorem total_splitL : ∀ (l : List UInt8), total (splitL 10 l) = l.length + 1
  | [] => rfl
  | b :: l => by
    have ih := total_splitL l
    rw [splitL_cons]
    split
    · show 0 + 1 + total _ = _; rw [ih]; simp; omega
    · cases hs : splitL 10 l with
      | nil => exact absurd hs (splitL_ne 10 l)
      | cons x r => rw [hs] at ih; unfold total at ih ⊢; simp; omega
theorem lp_eq : ∀ (P : List (List UInt8)) (out : List S32) (at_ : Nat), lp P out (at_ : Int) = match pw P at_ with | some j => ([], (j : Int), 7) | none => (lg P out (at_ : Int), 0, 0)
  | [], out, at_ => rfl
  | p :: r, out, at_ => by
    unfold lp pw lg
    cases hf : fw (bareL p) with
    | some j => simp only; congr 2 <;> omega
    | none =>
      simp only
      have := lp_eq r (put out (Ws (bareL p) at_)) (at_ + p.length + 1)
      rw [show ((at_ + p.length + 1 : Nat) : Int) = (at_ : Int) + (p.length : Int) + 1 by omega] at this
      exact this
theorem Lines_ev (l : List UInt8) : Ev (fun k => line_Lines.f k (B l)) (spec l) := by
  unfold spec
  by_cases h1 : 200000 < l.length
  · rw [if_pos h1]
    refine Ev.of fun k => ?_
    unfold line_Lines.f
    rw [if_pos (by rw [B_size]; exact h1)]
  · rw [if_neg h1]
    by_cases h2 : 5000 < l.count 10
    · rw [if_pos h2]
      refine Ev.of fun k => ?_
      unfold line_Lines.f
      rw [if_neg (by rw [B_size]; exact h1), if_pos (by rw [B_list]; exact h2)]
    · rw [if_neg h2]
      have e : ∀ k, line_Lines.f k (B l) = line_Lines.go k ((splitL 10 l).map B) [] 0 := by
        intro k
        unfold line_Lines.f
        rw [if_neg (by rw [B_size]; exact h1), if_neg (by rw [B_list]; exact h2)]
        unfold splitB
        rw [B_list]; rfl
      refine Ev.congr e ?_
      have := go_ev (splitL 10 l) [] 0 (Int.le_refl _) (by rw [total_splitL]; omega)
      have q := lp_eq (splitL 10 l) [] 0
      rw [Int.natCast_zero] at q
      rw [q] at this
      exact this
end Go.Proofs.YtamgobcahgcejaaDoor.PureN
