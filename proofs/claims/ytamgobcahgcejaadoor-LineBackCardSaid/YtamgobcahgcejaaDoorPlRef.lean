/- The plain law of entailref1.Lines: it answers as the lines of a text are told in PlLine, for texts shorter than 1,000,000,000,000 bytes. -/
import Derived.Test.YtamgobcahgcejaaDoorPlLine
namespace Go.Proofs.YtamgobcahgcejaaDoor.Pure
open Go.RowKit Go.Proofs.YtamgobcahgcejaaDoorSeq Go.Proofs.YtamgobcahgcejaaDoor.GA Go.Proofs.YtamgobcahgcejaaDoorW.PrintWords Go.Proofs.YtamgobcahgcejaaDoorW.PrintLast Go.Proofs.YtamgobcahgcejaaDoorW.PrintMore
set_option linter.unusedVariables false
set_option linter.unusedSimpArgs false

/-! ### entailref1: words -/
theorem ite_lt {α : Type} {p : Prop} [Decidable p] {a b : α} (h : p) : (if p then a else b) = a := if_pos h
theorem blank_or (c : UInt8) : ((c.toNat : Int) = 32 ∨ (c.toNat : Int) = 9) ↔ blank c = true := by
  rw [toNat_is c 32 (m := 32) rfl, toNat_is c 9 (m := 9) rfl]
  simp [blank]
theorem nat_wrap1 {i : Nat} (h : i < 4611686018427387904) : wrap64 ((i : Int) + 1) = ((i + 1 : Nat) : Int) := by rw [wrap_small (by omega) (by omega)]; omega
theorem rwords_l1 (l : List UInt8) (hl : l.length < 4000000000000) (at_ : Int) (h0 : 0 ≤ at_) (hat : at_ + l.length < 4611686018427387904) (out : List S34) (ho : out.length < 5864062014805) (i : Nat) (v : List S34) : ∀ (d k : Nat), l.length - k = d → i ≤ k → k ≤ l.length →
    Ev (fun q => entailref1_words.l0 q (B l) at_ (out ++ [(⟨B ((l.drop i).take (k + ((l.drop k).takeWhile nb).length - i)), at_ + i⟩ : S34)]) ((k + ((l.drop k).takeWhile nb).length : Nat) : Int)) v →
    Ev (fun q => entailref1_words.l1 q (B l) at_ out (i : Int) (k : Int)) v
  | 0, k, hd, hi, hk, H => by
    have e : l.drop k = [] := List.drop_eq_nil_of_le (by omega)
    rw [e] at H
    simp only [List.takeWhile_nil, List.length_nil, Nat.add_zero] at H
    refine Ev.step (fun q => ?_) H
    conv => lhs; unfold entailref1_words.l1
    rw [if_neg (by rw [B_size]; omega), if_pos (by omega), if_pos (by omega), if_pos (by rw [B_size]; omega), if_pos ho, wrap_small (by omega) (by omega), B_cut]
    simp only [Int.toNat_natCast]
  | d + 1, k, hd, hi, hk, H => by
    have h : k < l.length := by omega
    have hd0 := drop_cons h
    have hb := bt_B l k
    generalize hc : l.getD k 0 = c at hd0 hb
    by_cases hbl : blank c
    · have e : (l.drop k).takeWhile nb = [] := by rw [hd0, List.takeWhile_cons]; simp [nb, hbl]
      rw [e] at H
      simp only [List.length_nil, Nat.add_zero] at H
      refine Ev.step (fun q => ?_) H
      conv => lhs; unfold entailref1_words.l1
      rw [if_pos (by rw [B_size]; omega), if_pos (by omega), hb]
      rcases (blank_or c).2 hbl with h32 | h9
      · rw [if_pos h32, if_pos (by omega), if_pos (by omega), if_pos (by rw [B_size]; omega), if_pos ho, wrap_small (by omega) (by omega), B_cut]
        simp only [Int.toNat_natCast]
      · rw [if_neg (by omega), if_pos h9, if_pos (by omega), if_pos (by omega), if_pos (by rw [B_size]; omega), if_pos ho, wrap_small (by omega) (by omega), B_cut]
        simp only [Int.toNat_natCast]
    · have e : ((l.drop k).takeWhile nb).length = ((l.drop (k + 1)).takeWhile nb).length + 1 := by rw [hd0, List.takeWhile_cons]; simp [nb, hbl]
      rw [e, show k + (((l.drop (k + 1)).takeWhile nb).length + 1) = (k + 1) + ((l.drop (k + 1)).takeWhile nb).length by omega] at H
      have ih := rwords_l1 l hl at_ h0 hat out ho i v d (k + 1) (by omega) (by omega) (by omega) H
      refine Ev.step (fun q => ?_) ih
      conv => lhs; unfold entailref1_words.l1
      have hno := fun hh => hbl ((blank_or c).1 hh)
      rw [if_pos (by rw [B_size]; omega), if_pos (by omega), hb, if_neg (fun h => hno (.inl h)), if_neg (fun h => hno (.inr h)), nat_wrap1 (by omega)]
theorem rwords_l0 (l : List UInt8) (hl : l.length < 4000000000000) (at_ : Int) (h0 : 0 ≤ at_) (hat : at_ + l.length < 4611686018427387904) : ∀ (d i : Nat) (out : List S34), l.length - i ≤ d → i ≤ l.length → out.length + l.length - i < 5864062014805 →
    Ev (fun k => entailref1_words.l0 k (B l) at_ out (i : Int)) (out ++ Wd d (l.drop i) (at_ + i)) := by
  intro d
  induction d with
  | zero =>
    intro i out hd hi ho
    rw [List.drop_eq_nil_of_le (by omega), Wd_nil, List.append_nil]
    refine Ev.step (g := fun _ => some out) (fun k => ?_) (Ev.pure _)
    unfold entailref1_words.l0
    rw [if_neg (by rw [B_size]; omega)]
  | succ d ih =>
    intro i out hd hi ho
    by_cases h : i < l.length
    · have hd0 := drop_cons h
      have hb := bt_B l i
      generalize hc : l.getD i 0 = c at hd0 hb
      have hW : Wd (d + 1) (l.drop i) (at_ + i) = if blank c then Wd d (l.drop (i + 1)) (at_ + i + 1) else if c = 35 then [] else
          (⟨B ((l.drop i).takeWhile nb), at_ + i⟩ : S34) :: Wd d ((l.drop i).dropWhile nb) (at_ + i + (((l.drop i).takeWhile nb).length : Int)) := by
        rw [hd0]; rfl
      rw [hW]
      have s1 : ∀ k, entailref1_words.l0 (k + 1) (B l) at_ out (i : Int) = entailref1_words.j1 k (B l) at_ out (i : Int) (blank c) := by
        intro k
        conv => lhs; unfold entailref1_words.l0
        rw [if_pos (by rw [B_size]; omega), if_pos (by omega), hb]
        by_cases h32 : (c.toNat : Int) = 32
        · rw [if_pos h32, (blank_or c).1 (.inl h32)]
        · rw [if_neg h32]
          congr 1
          by_cases h9 : (c.toNat : Int) = 9
          · rw [(blank_or c).1 (.inr h9), h9]; rfl
          · have : blank c = false := by
              cases hq : blank c with
              | false => rfl
              | true => rcases (blank_or c).2 hq with hh | hh <;> contradiction
            rw [this]; simpa using h9
      refine Ev.step s1 ?_
      by_cases hbl : blank c
      · rw [if_pos hbl, hbl]
        have := ih (i + 1) out (by omega) (by omega) (by omega)
        rw [show at_ + (i : Int) + 1 = at_ + ((i + 1 : Nat) : Int) by omega]
        refine Ev.step (fun k => ?_) this
        conv => lhs; unfold entailref1_words.j1
        rw [if_pos rfl, nat_wrap1 (by omega)]
      · have hbf : blank c = false := by simpa using hbl
        rw [if_neg hbl, hbf]
        have s2 : ∀ k, entailref1_words.j1 (k + 1) (B l) at_ out (i : Int) false = if c = 35 then some out else entailref1_words.l1 k (B l) at_ out (i : Int) (i : Int) := by
          intro k
          conv => lhs; unfold entailref1_words.j1
          rw [if_neg (by decide), if_pos (by omega), if_pos (by rw [B_size]; omega), hb]
          by_cases h35 : c = 35
          · rw [if_pos ((toNat_is c 35 (m := 35) rfl).2 h35), if_pos h35]
          · rw [if_neg (fun hh => h35 ((toNat_is c 35 (m := 35) rfl).1 hh)), if_neg h35]
        refine Ev.step s2 ?_
        by_cases h35 : c = 35
        · rw [if_pos h35, List.append_nil]
          exact Ev.of (fun k => by rw [if_pos h35])
        · rw [if_neg h35]
          refine Ev.congr (fun k => by rw [if_neg h35]) ?_
          have hm : 0 < ((l.drop i).takeWhile nb).length := by
            rw [hd0, List.takeWhile_cons]
            simp [nb, hbl]
          have hm2 := tw_len_le (l.drop i)
          rw [List.length_drop] at hm2
          refine rwords_l1 l hl at_ h0 hat out (by omega) i _ _ i rfl (Nat.le_refl _) (by omega) ?_
          rw [Nat.add_sub_cancel_left, tw_take]
          have := ih (i + ((l.drop i).takeWhile nb).length) (out ++ [(⟨B ((l.drop i).takeWhile nb), at_ + i⟩ : S34)]) (by omega) (by omega) (by simp; omega)
          rw [List.append_assoc, ← List.drop_drop, tw_drop] at this
          rw [show at_ + (i : Int) + (((l.drop i).takeWhile nb).length : Int) = at_ + ((i + ((l.drop i).takeWhile nb).length : Nat) : Int) by omega]
          exact this
    · rw [List.drop_eq_nil_of_le (by omega), Wd_nil, List.append_nil]
      refine Ev.step (g := fun _ => some out) (fun k => ?_) (Ev.pure _)
      unfold entailref1_words.l0
      rw [if_neg (by rw [B_size]; omega)]
theorem rwords_f (l : List UInt8) (at_ : Int) (h0 : 0 ≤ at_) (hat : at_ + l.length < 4000000000000) : Ev (fun k => entailref1_words.f k (B l) at_) (Ws l at_) := by
  have := rwords_l0 l (by omega) at_ h0 (by omega) l.length 0 [] (by omega) (by omega) (by simp; omega)
  rw [List.nil_append, List.drop_zero, Int.natCast_zero, Int.add_zero] at this
  exact this

/-! ### entailref1: Lines -/
theorem rcount (l : List UInt8) (hl : l.length < 4000000000000) (v : List S32 × Int × Int) : ∀ (d i n : Nat), l.length - i = d → i ≤ l.length → n ≤ i →
    Ev (fun k => if (l.length : Int) > 200000 then entailref1_Lines.j1 k (B l) true else entailref1_Lines.j1 k (B l) (decide (((n + (l.drop i).count 10 : Nat) : Int) > 5000))) v →
    Ev (fun k => entailref1_Lines.l0 k (B l) (n : Int) (i : Int)) v
  | 0, i, n, hd, hi, hn, H => by
    rw [List.drop_eq_nil_of_le (by omega), List.count_nil, Nat.add_zero] at H
    refine Ev.step (fun k => ?_) H
    conv => lhs; unfold entailref1_Lines.l0
    rw [if_neg (by rw [B_size]; omega), B_size]
  | d + 1, i, n, hd, hi, hn, H => by
    have h : i < l.length := by omega
    have hd0 := drop_cons h
    have hb := bt_B l i
    generalize hc : l.getD i 0 = c at hd0 hb
    rw [hd0, List.count_cons] at H
    by_cases h10 : c = 10
    · rw [show n + ((l.drop (i + 1)).count 10 + if (c == 10) = true then 1 else 0) = (n + 1) + (l.drop (i + 1)).count 10 by rw [if_pos (by simpa using h10)]; omega] at H
      refine Ev.step (fun k => ?_) (rcount l hl v d (i + 1) (n + 1) (by omega) (by omega) (by omega) H)
      conv => lhs; unfold entailref1_Lines.l0
      rw [if_pos (by rw [B_size]; omega), if_pos (by omega), hb, if_pos ((toNat_is c 10 (m := 10) rfl).2 h10), nat_wrap1 (by omega), nat_wrap1 (by omega)]
    · rw [show n + ((l.drop (i + 1)).count 10 + if (c == 10) = true then 1 else 0) = n + (l.drop (i + 1)).count 10 by rw [if_neg (by simpa using h10)]; omega] at H
      refine Ev.step (fun k => ?_) (rcount l hl v d (i + 1) n (by omega) (by omega) (by omega) H)
      conv => lhs; unfold entailref1_Lines.l0
      rw [if_pos (by rw [B_size]; omega), if_pos (by omega), hb, if_neg (fun hh => h10 ((toNat_is c 10 (m := 10) rfl).1 hh)), nat_wrap1 (by omega)]
def okc (c : UInt8) (r : List UInt8) : Bool := (c = 13 ∧ (r = [] ∨ r.head? = some 10)) ∨ c = 10 ∨ good c = true
def fb : List UInt8 → Option Nat
  | [] => none
  | c :: r => if okc c r then (fb r).map (· + 1) else some 0
theorem rbad (l : List UInt8) (hl : l.length < 4000000000000) (v : List S32 × Int × Int) : ∀ (d i : Nat), l.length - i = d → i ≤ l.length →
    (fb (l.drop i) = none → Ev (fun k => entailref1_Lines.l2 k (B l) [] 0 0) v) →
    Ev (fun k => entailref1_Lines.l1 k (B l) (i : Int)) (match fb (l.drop i) with | some j => ([], ((i + j : Nat) : Int), 7) | none => v)
  | 0, i, hd, hi, H => by
    rw [List.drop_eq_nil_of_le (by omega)] at H ⊢
    refine Ev.step (fun k => ?_) (H rfl)
    conv => lhs; unfold entailref1_Lines.l1
    rw [if_neg (by rw [B_size]; omega)]
  | d + 1, i, hd, hi, H => by
    have h : i < l.length := by omega
    have hd0 := drop_cons h
    have hb := bt_B l i
    generalize hc : l.getD i 0 = c at hd0 hb
    have stepk : ∀ k, entailref1_Lines.l1 (k + 1) (B l) (i : Int) = if okc c (l.drop (i + 1)) then entailref1_Lines.l1 k (B l) ((i + 1 : Nat) : Int) else some ([], (i : Int), 7) := by
      intro k
      conv => lhs; unfold entailref1_Lines.l1
      rw [if_pos (by rw [B_size]; omega), if_pos (by omega), hb, nat_wrap1 (by omega)]
      by_cases h13 : c = 13
      · rw [if_pos ((toNat_is c 13 (m := 13) rfl).2 h13)]
        by_cases he : i + 1 = l.length
        · rw [if_pos (by rw [B_size]; omega), if_pos]
          unfold okc
          have : l.drop (i + 1) = [] := List.drop_eq_nil_of_le (by omega)
          simp [h13, this]
        · rw [if_neg (by rw [B_size]; omega), if_pos (by omega), if_pos (by rw [B_size]; omega), bt_B]
          have hd1 := drop_cons (l := l) (i := i + 1) (by omega)
          generalize l.getD (i + 1) 0 = c' at hd1
          by_cases h10 : c' = 10
          · rw [if_pos ((toNat_is c' 10 (m := 10) rfl).2 h10), if_pos]
            unfold okc
            simp [h13, hd1, h10]
          · rw [if_neg (fun hh => h10 ((toNat_is c' 10 (m := 10) rfl).1 hh))]
            have hv : (c.toNat : Int) = 13 := (toNat_is c 13 (m := 13) rfl).2 h13
            rw [if_neg (by omega), if_neg (by omega), if_neg (by omega), if_neg]
            unfold okc
            simp [h13, hd1, h10, good]
      · rw [if_neg (fun hh => h13 ((toNat_is c 13 (m := 13) rfl).1 hh))]
        by_cases h9 : c = 9
        · rw [if_pos ((toNat_is c 9 (m := 9) rfl).2 h9), if_pos]
          simp [okc, good, h9]
        · rw [if_neg (fun hh => h9 ((toNat_is c 9 (m := 9) rfl).1 hh))]
          by_cases h10 : c = 10
          · rw [if_pos ((toNat_is c 10 (m := 10) rfl).2 h10), if_pos]
            simp [okc, h10]
          · rw [if_neg (fun hh => h10 ((toNat_is c 10 (m := 10) rfl).1 hh))]
            have e : okc c (l.drop (i + 1)) = decide (32 ≤ c.toNat ∧ c.toNat ≤ 126) := by
              unfold okc good
              simp [h13, h10, h9]
            rw [e]
            by_cases h32 : (c.toNat : Int) ≥ 32
            · rw [if_pos h32]
              by_cases h126 : (c.toNat : Int) ≤ 126
              · rw [if_pos h126, if_pos (by simp; omega)]
              · rw [if_neg h126, if_neg (by simp; omega)]
            · rw [if_neg h32, if_neg (by simp; omega)]
    refine Ev.step stepk ?_
    rw [hd0]
    unfold fb
    by_cases ho : okc c (l.drop (i + 1))
    · have ih := rbad l hl v d (i + 1) (by omega) (by omega) (fun hn => H (by rw [hd0]; unfold fb; rw [if_pos ho, hn]; rfl))
      simp only [ho, if_true]
      cases hf : fb (l.drop (i + 1)) with
      | none => rw [hf] at ih; exact ih
      | some j => rw [hf] at ih; simp only [Option.map_some]; rw [show i + (j + 1) = i + 1 + j by omega]; exact ih
    · simp only [ho, if_false, Bool.false_eq_true]
      rw [Nat.add_zero]; exact Ev.pure _
theorem bareL_one (c : UInt8) : bareL [c] = if c = 13 then [] else [c] := by
  unfold bareL
  by_cases h : c = 13 <;> simp [h]
theorem bareL_cons (c : UInt8) (x : List UInt8) (h : x ≠ []) : bareL (c :: x) = c :: bareL x := by
  unfold bareL
  rw [List.getLast?_cons_of_ne_nil h, List.dropLast_cons_of_ne_nil h]
  split <;> rfl
theorem split_head : ∀ (l : List UInt8) (x : List UInt8) (r : List (List UInt8)), splitL 10 l = x :: r → (x = [] ↔ (l = [] ∨ l.head? = some 10))
  | [], x, r, h => by simp [splitL] at h; simp [h.1]
  | b :: l, x, r, h => by
    rw [splitL_cons] at h
    by_cases hb : b = 10
    · rw [if_pos hb] at h
      simp at h; simp [h.1, hb]
    · rw [if_neg hb] at h
      cases hs : splitL 10 l with
      | nil => exact absurd hs (splitL_ne 10 l)
      | cons y q => rw [hs] at h; simp at h; simp [← h.1, hb]
theorem fb_pw : ∀ (l : List UInt8) (at_ : Nat), (fb l).map (at_ + ·) = pw (splitL 10 l) at_
  | [], at_ => by simp [fb, splitL, pw, bareL, fw]
  | c :: l, at_ => by
    have ih := fb_pw l (at_ + 1)
    rw [splitL_cons]
    unfold fb
    by_cases h10 : c = 10
    · rw [if_pos h10, if_pos (by simp [okc, h10])]
      unfold pw
      have : fw (bareL []) = none := rfl
      rw [this]
      simp only [List.length_nil, Nat.add_zero]
      rw [← ih, Option.map_map]
      congr 1
      funext q; simp; omega
    · rw [if_neg h10]
      cases hs : splitL 10 l with
      | nil => exact absurd hs (splitL_ne 10 l)
      | cons x r =>
        have hx := split_head l x r hs
        rw [hs] at ih
        simp only
        unfold pw at ih ⊢
        by_cases hxe : x = []
        · subst hxe
          have hl := hx.1 rfl
          have e0 : fw (bareL []) = none := rfl
          rw [e0] at ih
          simp only [List.length_nil, Nat.add_zero] at ih
          rw [bareL_one]
          by_cases h13 : c = 13
          · rw [if_pos h13, if_pos (by simp [okc, h13, hl])]
            have e1 : fw [] = none := rfl
            rw [e1]
            simp only [List.length_cons, List.length_nil, Nat.zero_add]
            rw [← ih, Option.map_map]
            congr 1
            funext q; simp; omega
          · rw [if_neg h13]
            by_cases hg : good c
            · rw [if_pos (by simp [okc, hg])]
              have e1 : fw [c] = none := by simp [fw, hg]
              rw [e1]
              simp only [List.length_cons, List.length_nil, Nat.zero_add]
              rw [← ih, Option.map_map]
              congr 1
              funext q; simp; omega
            · rw [if_neg (by simp [okc, hg, h13, h10])]
              have e1 : fw [c] = some 0 := by simp [fw, hg]
              rw [e1]
              rfl
        · have hl : ¬ (l = [] ∨ l.head? = some 10) := fun hh => hxe (hx.2 hh)
          rw [bareL_cons c x hxe]
          have eo : okc c l = good c := by
            unfold okc
            have h1 : ¬ l = [] := fun e => hl (.inl e)
            have h2 : ¬ l.head? = some 10 := fun e => hl (.inr e)
            simp [h1, h2, h10]
          rw [eo]
          conv => rhs; rw [fw]
          by_cases hg : good c
          · rw [if_pos hg, if_pos hg]
            cases hf : fw (bareL x) with
            | some j =>
              rw [hf] at ih
              simp only [Option.map_some] at ih ⊢
              cases hfb : fb l with
              | none => rw [hfb] at ih; simp at ih
              | some q => rw [hfb] at ih; simp at ih; simp; omega
            | none =>
              rw [hf] at ih
              simp only [Option.map_none] at ih ⊢
              simp only [List.length_cons]
              rw [show at_ + (x.length + 1) + 1 = at_ + 1 + x.length + 1 by omega, ← ih, Option.map_map]
              congr 1
              funext q; simp; omega
          · rw [if_neg hg, if_neg hg]
            rfl

theorem split_cut : ∀ (l p : List UInt8) (r : List (List UInt8)), splitL 10 l = p :: r → p = l.take p.length ∧ ((r = [] ∧ p.length = l.length) ∨ (p.length < l.length ∧ splitL 10 (l.drop (p.length + 1)) = r))
  | [], p, r, h => by simp [splitL] at h; simp [h.1, h.2]
  | b :: l, p, r, h => by
    rw [splitL_cons] at h
    by_cases hb : b = 10
    · rw [if_pos hb] at h
      injection h with h1 h2
      subst h1
      exact ⟨rfl, .inr ⟨by simp, by simpa using h2⟩⟩
    · rw [if_neg hb] at h
      cases hs : splitL 10 l with
      | nil => exact absurd hs (splitL_ne 10 l)
      | cons y q =>
        rw [hs] at h
        injection h with h1 h2
        subst h1 h2
        obtain ⟨ha, hbb⟩ := split_cut l y q hs
        refine ⟨by simp only [List.length_cons, List.take_succ_cons]; rw [← ha], ?_⟩
        rcases hbb with ⟨e1, e2⟩ | ⟨e1, e2⟩
        · exact .inl ⟨e1, by simp [e2]⟩
        · exact .inr ⟨by simp only [List.length_cons]; omega, by simpa using e2⟩
theorem rscan (l : List UInt8) (hl : l.length < 4000000000000) (out : List S32) (fr : Nat) (v : List S32 × Int × Int) : ∀ (d i : Nat) (x : List UInt8) (r : List (List UInt8)), x.length = d → i ≤ l.length → splitL 10 (l.drop i) = x :: r →
    Ev (fun k => entailref1_Lines.j4 k (B l) out (fr : Int) ((i + d : Nat) : Int) false) v →
    Ev (fun k => entailref1_Lines.l2 k (B l) out (fr : Int) (i : Int)) v
  | 0, i, x, r, hx, hi, hs, H => by
    have hx0 : x = [] := List.eq_nil_of_length_eq_zero hx
    have hh := (split_head _ x r hs).1 hx0
    refine Ev.step (fun k => ?_) H
    conv => lhs; unfold entailref1_Lines.l2
    rw [if_pos (by rw [B_size]; omega)]
    by_cases he : i < l.length
    · have hd0 := drop_cons he
      have hb := bt_B l i
      generalize hc : l.getD i 0 = c at hd0 hb
      rw [if_pos (by rw [B_size]; omega), if_pos (by omega), hb]
      have h10 : c = 10 := by rw [hd0] at hh; simpa using hh
      have e : ((c.toNat : Int) != 10) = false := by rw [(toNat_is c 10 (m := 10) rfl).2 h10]; rfl
      rw [e]; rfl
    · rw [if_neg (by rw [B_size]; omega)]; rfl
  | d + 1, i, x, r, hx, hi, hs, H => by
    have hne : ¬ x = [] := by rintro rfl; simp at hx
    have hh := fun h => hne ((split_head _ x r hs).2 h)
    have he : i < l.length := by
      rcases Nat.lt_or_ge i l.length with h | h
      · exact h
      · exact absurd (.inl (List.drop_eq_nil_of_le h)) hh
    have hd0 := drop_cons he
    have hb := bt_B l i
    generalize hc : l.getD i 0 = c at hd0 hb
    have h10 : ¬ c = 10 := fun e => hh (.inr (by rw [hd0, e]; rfl))
    rw [hd0, splitL_cons, if_neg h10] at hs
    cases hs2 : splitL 10 (l.drop (i + 1)) with
    | nil => exact absurd hs2 (splitL_ne 10 _)
    | cons y q =>
      rw [hs2] at hs
      injection hs with h1 h2
      subst h1
      rw [show i + (d + 1) = i + 1 + d by omega] at H
      have ih := rscan l hl out fr v d (i + 1) y q (by simpa using hx) (by omega) hs2 H
      refine Ev.step (g := fun k => entailref1_Lines.j4 k (B l) out (fr : Int) (i : Int) true) (fun k => ?_) (Ev.step (fun k => ?_) ih)
      · conv => lhs; unfold entailref1_Lines.l2
        rw [if_pos (by rw [B_size]; omega), if_pos (by rw [B_size]; omega), if_pos (by omega), hb]
        have e : ((c.toNat : Int) != 10) = true := by
          simpa using fun hh => h10 ((toNat_is c 10 (m := 10) rfl).1 hh)
        rw [e]
      · conv => lhs; unfold entailref1_Lines.j4
        rw [if_pos rfl, nat_wrap1 (by omega)]
theorem rput (l : List UInt8) (hl : l.length < 1000000000000) (out : List S32) (ho : out.length < 4398046511104) (fr e : Nat) (p : List UInt8) (hf : fr ≤ e) (he : e ≤ l.length) (hp : (B l).extract fr e = B p) (hpl : p.length = e - fr) (v : List S32 × Int × Int)
    (H : Ev (fun k => entailref1_Lines.l2 k (B l) (put out (Ws (bareL p) fr)) ((e + 1 : Nat) : Int) ((e + 1 : Nat) : Int)) v) :
    Ev (fun k => entailref1_Lines.j4 k (B l) out (fr : Int) (e : Int) false) v := by
  have hpe : p = (l.drop fr).take (e - fr) := by
    rw [B_cut] at hp
    exact (B_inj hp).symm
  have last : p ≠ [] → p.getLast? = some (l.getD (e - 1) 0) := by
    intro hne
    have hpos := List.length_pos_iff.2 hne
    rw [List.getLast?_eq_getElem?, hpl]
    conv => lhs; rw [hpe]
    rw [List.getElem?_take, if_pos (by omega), List.getElem?_drop, show fr + (e - fr - 1) = e - 1 by omega, List.getD_eq_getElem?_getD, List.getElem?_eq_getElem (by omega)]
    rfl
  have s1 : ∀ k, entailref1_Lines.j4 (k + 1) (B l) out (fr : Int) (e : Int) false = entailref1_Lines.j5 k (B l) out (fr : Int) (e : Int) (e : Int) (decide (p.getLast? = some 13)) := by
    intro k
    conv => lhs; unfold entailref1_Lines.j4
    rw [if_neg (by decide)]
    by_cases h : e > fr
    · have hne : p ≠ [] := by rintro rfl; simp at hpl; omega
      have hw : wrap64 ((e : Int) - 1) = ((e - 1 : Nat) : Int) := by rw [wrap_small (by omega) (by omega)]; omega
      rw [if_pos (by omega), hw, if_pos (by omega), if_pos (by rw [B_size]; omega), bt_B, last hne]
      generalize l.getD (e - 1) 0 = c
      congr 1
      by_cases h13 : c = 13
      · simp [h13]
      · have : ¬ ((c.toNat : Int) = 13) := fun hh => h13 ((toNat_is c 13 (m := 13) rfl).1 hh)
        have e1 : ((c.toNat : Int) == 13) = false := by simpa using this
        rw [e1]; simp [h13]
    · have hne : p = [] := List.eq_nil_of_length_eq_zero (by omega)
      rw [if_neg (by omega), hne]; rfl
  refine Ev.step s1 ?_
  have tail : ∀ (k : Nat) (t : List S34), (if (t.length : Int) > 0 then (if 0 < (t.length : Int) then (if out.length < 4398046511104 then (entailref1_Lines.l2 k (B l) (out ++ [(⟨(rd_T34 t 0).f1, t⟩ : S32)]) (wrap64 ((e : Int) + 1)) (wrap64 ((e : Int) + 1))) else (none)) else (none)) else (entailref1_Lines.l2 k (B l) out (wrap64 ((e : Int) + 1)) (wrap64 ((e : Int) + 1)))) = entailref1_Lines.l2 k (B l) (put out t) ((e + 1 : Nat) : Int) ((e + 1 : Nat) : Int) := by
    intro k t
    rw [nat_wrap1 (by omega)]
    unfold put
    by_cases ht : 0 < t.length
    · rw [if_pos (by omega), if_pos (by omega), if_pos ho, if_pos ht]
    · rw [if_neg (by omega), if_neg ht]
  have hble := bareL_le p
  have wf := rwords_f (bareL p) (fr : Int) (by omega) (by omega)
  by_cases hl13 : p.getLast? = some 13
  · have hne : p ≠ [] := by rintro rfl; simp at hl13
    have hpos := List.length_pos_iff.2 hne
    have hw : wrap64 ((e : Int) - 1) = ((e - 1 : Nat) : Int) := by rw [wrap_small (by omega) (by omega)]; omega
    have ecut : (B l).extract fr (e - 1) = B (bareL p) := by
      rw [B_cut]
      unfold bareL
      rw [if_pos hl13, List.dropLast_eq_take, hpl, hpe, List.take_take]
      congr 2
      omega
    refine Ev.step (g := fun k => (entailref1_words.f k (B (bareL p)) (fr : Int)).bind fun t => entailref1_Lines.l2 k (B l) (put out t) ((e + 1 : Nat) : Int) ((e + 1 : Nat) : Int)) (fun k => ?_) (Ev.bind wf H)
    conv => lhs; unfold entailref1_Lines.j5
    rw [if_pos (by simpa using hl13), hw, if_pos (by omega), if_pos (by omega), if_pos (by rw [B_size]; omega)]
    simp only [Int.toNat_natCast, tail, ecut]
  · have ecut : (B l).extract fr e = B (bareL p) := by
      rw [hp]; unfold bareL; rw [if_neg hl13]
    refine Ev.step (g := fun k => (entailref1_words.f k (B (bareL p)) (fr : Int)).bind fun t => entailref1_Lines.l2 k (B l) (put out t) ((e + 1 : Nat) : Int) ((e + 1 : Nat) : Int)) (fun k => ?_) (Ev.bind wf H)
    conv => lhs; unfold entailref1_Lines.j5
    rw [if_neg (by simpa using hl13), if_pos (by omega), if_pos (by omega), if_pos (by rw [B_size]; omega)]
    simp only [Int.toNat_natCast, tail, ecut]
theorem put_len (out : List S32) (ws : List S34) : (put out ws).length ≤ out.length + 1 := by
  unfold put; split
  · simp
  · omega
theorem rlines (l : List UInt8) (hl : l.length < 1000000000000) : ∀ (P : List (List UInt8)) (fr : Nat) (out : List S32), fr ≤ l.length → splitL 10 (l.drop fr) = P → out.length + P.length < 4398046511104 →
    Ev (fun k => entailref1_Lines.l2 k (B l) out (fr : Int) (fr : Int)) (lg P out (fr : Int), 0, 0)
  | [], fr, out, hf, hs, ho => absurd hs (splitL_ne 10 _)
  | p :: r, fr, out, hf, hs, ho => by
    obtain ⟨hp, hr⟩ := split_cut _ p r hs
    have hpl : p.length ≤ l.length - fr := by
      rw [List.length_drop] at hr
      rcases hr with ⟨_, h⟩ | ⟨h, _⟩ <;> omega
    refine rscan l (by omega) out fr _ p.length fr p r rfl hf hs ?_
    have hpc := put_len out (Ws (bareL p) (fr : Int))
    refine rput l hl out (by simp at ho; omega) fr (fr + p.length) p (by omega) (by omega) (by rw [B_cut, Nat.add_sub_cancel_left, ← hp]) (by omega) _ ?_
    unfold lg
    rcases hr with ⟨h1, h2⟩ | ⟨h1, h2⟩
    · subst h1
      rw [List.length_drop] at h2
      refine Ev.step (g := fun _ => some (put out (Ws (bareL p) (fr : Int)), 0, 0)) (fun k => ?_) (Ev.pure _)
      conv => lhs; unfold entailref1_Lines.l2
      rw [if_neg (by rw [B_size]; omega)]
    · rw [List.length_drop] at h1
      have := rlines l hl r (fr + p.length + 1) (put out (Ws (bareL p) (fr : Int))) (by omega) (by rw [← h2, List.drop_drop]; congr 2) (by simp at ho; omega)
      rw [show (((fr + p.length + 1 : Nat)) : Int) = (fr : Int) + (p.length : Int) + 1 by omega] at this ⊢
      exact this
theorem splitL_count (l : List UInt8) : (splitL 10 l).length ≤ l.length + 1 := by
  rw [splitL_length]
  have := List.count_le_length (a := (10 : UInt8)) (l := l)
  omega
theorem rLines_ev (l : List UInt8) (hl : l.length < 1000000000000) : Ev (fun k => entailref1_Lines.f k (B l)) (spec l) := by
  have c := rcount l (by omega) (spec l) l.length 0 0 rfl (Nat.zero_le _) (Nat.le_refl _)
  rw [List.drop_zero, Nat.zero_add] at c
  refine c ?_
  unfold spec
  have j1t : ∀ k, entailref1_Lines.j1 (k + 1) (B l) true = some ([], 0, 8) := by
    intro k; rw [entailref1_Lines.j1]; rfl
  by_cases h1 : 200000 < l.length
  · rw [if_pos h1]
    refine Ev.congr (g := fun k => entailref1_Lines.j1 k (B l) true) (fun k => by rw [if_pos (by omega)]) (Ev.step j1t (Ev.pure _))
  · rw [if_neg h1]
    refine Ev.congr (g := fun k => entailref1_Lines.j1 k (B l) (decide (((l.count 10 : Nat) : Int) > 5000))) (fun k => by rw [if_neg (by omega)]) ?_
    by_cases h2 : 5000 < l.count 10
    · rw [if_pos h2, show decide (((l.count 10 : Nat) : Int) > 5000) = true from decide_eq_true (by omega)]
      exact Ev.step j1t (Ev.pure _)
    · rw [if_neg h2, show decide (((l.count 10 : Nat) : Int) > 5000) = false from decide_eq_false (by omega)]
      refine Ev.step (g := fun k => entailref1_Lines.l1 k (B l) 0) (fun k => ?_) ?_
      · rw [entailref1_Lines.j1]; rfl
      · have hb := rbad l (by omega) (lg (splitL 10 l) [] 0, 0, 0) l.length 0 rfl (Nat.zero_le _) (fun _ => by
          have := splitL_count l
          have q := rlines l hl (splitL 10 l) 0 [] (Nat.zero_le _) (by rw [List.drop_zero]) (by simp; omega)
          exact q)
        rw [List.drop_zero] at hb
        have fp := fb_pw l 0
        rw [← fp]
        cases hf : fb l with
        | none => rw [hf] at hb; exact hb
        | some j => rw [hf] at hb; exact hb
end Go.Proofs.YtamgobcahgcejaaDoor.Pure
