/- The plain law of LineNotes: the printed function answers true at every row of numbers and every number; and the walk with it. -/
import Derived.Test.YtamgobcahgcejaaDoorPlLineC
import Derived.Test.YtamgobcahgcejaaDoorGCx12a
namespace Go.Proofs.YtamgobcahgcejaaDoor.PureN
open Go.RowKit Go.Proofs.YtamgobcahgcejaaDoorSeq Go.Proofs.YtamgobcahgcejaaDoor.GC Go.Proofs.YtamgobcahgcejaaDoorW.PrintWords Go.Proofs.YtamgobcahgcejaaDoorW.PrintLast Go.Proofs.YtamgobcahgcejaaDoorW.PrintMore
set_option linter.unusedVariables false
set_option linter.unusedSimpArgs false
theorem Ev.mono {α : Type} {f : Nat → Option α} {v : α} (hm : ∀ k, LeO (f k) (f (k + 1))) {K : Nat} (h : f K = some v) : Ev f v := by
  refine ⟨K, fun k hk => ?_⟩
  induction k with
  | zero => obtain rfl : K = 0 := by omega
            exact h
  | succ k ih =>
    rcases Nat.eq_or_lt_of_le hk with e | e
    · rw [← e]; exact h
    · exact hm k v (ih (by omega))
theorem awake_ev : Ev (fun k => entaillaw12_awake.f k) true := Ev.mono (fun k => entaillaw12_awake.mono k) (K := 60) (by decide +kernel)
theorem nat_wrap1 {i : Nat} (h : i < 4611686018427387904) : wrap64 ((i : Int) + 1) = ((i + 1 : Nat) : Int) := by rw [wrap_small (by omega) (by omega)]; omega
theorem and_small (x : Int) (m : Nat) (hm : m < 9223372036854775808) : 0 ≤ Go.bits .and .i64 x m ∧ Go.bits .and .i64 x m ≤ m := by
  unfold Go.bits
  simp only
  have h1 : (BitVec.ofInt IntKind.i64.bits x &&& BitVec.ofInt IntKind.i64.bits (m : Int)).toNat ≤ m := by
    rw [BitVec.toNat_and]
    refine Nat.le_trans Nat.and_le_right ?_
    rw [BitVec.ofInt_natCast, BitVec.toNat_ofNat]
    exact Nat.mod_le _ _
  generalize (BitVec.ofInt IntKind.i64.bits x &&& BitVec.ofInt IntKind.i64.bits (m : Int)).toNat = q at h1 ⊢
  rw [IntKind.wrap_i64]
  omega
theorem Wd_fuel : ∀ (n m : Nat) (l : List UInt8) (a : Int), l.length ≤ n → l.length ≤ m → Wd n l a = Wd m l a
  | 0, m, l, a, hn, _ => by
    obtain rfl : l = [] := List.eq_nil_of_length_eq_zero (by omega)
    rw [Wd_nil, Wd_nil]
  | n + 1, 0, l, a, _, hm => by
    obtain rfl : l = [] := List.eq_nil_of_length_eq_zero (by omega)
    rw [Wd_nil, Wd_nil]
  | n + 1, m + 1, [], a, _, _ => rfl
  | n + 1, m + 1, c :: r, a, hn, hm => by
    unfold Wd
    simp only [List.length_cons] at hn hm
    by_cases hb : blank c
    · rw [if_pos hb, if_pos hb]; exact Wd_fuel n m r _ (by omega) (by omega)
    · rw [if_neg hb, if_neg hb]
      by_cases h35 : c = 35
      · rw [if_pos h35, if_pos h35]
      · rw [if_neg h35, if_neg h35]
        congr 1
        have e : (c :: r).dropWhile (fun x => !blank x) = r.dropWhile (fun x => !blank x) := by
          rw [List.dropWhile_cons]; simp [hb]
        rw [e]
        have hl : (r.dropWhile (fun x => !blank x)).length ≤ r.length := List.Sublist.length_le (List.dropWhile_sublist _)
        exact Wd_fuel n m _ _ (by omega) (by omega)
def isW (w : List UInt8) : Bool := !w.isEmpty && w.all (fun c => nb c && good c && c != 10 && c != 13) && w.head? != some 35
theorem isW_ne {w : List UInt8} (h : isW w = true) : w ≠ [] := by
  rintro rfl; simp [isW] at h
theorem isW_all {w : List UInt8} (h : isW w = true) : ∀ c ∈ w, nb c = true ∧ good c = true ∧ c ≠ 10 ∧ c ≠ 13 := by
  intro c hc
  simp only [isW, Bool.and_eq_true, List.all_eq_true, bne_iff_ne] at h
  have := h.1.2 c hc
  exact ⟨this.1.1.1, this.1.1.2, this.1.2, this.2⟩
theorem isW_head {w : List UInt8} (h : isW w = true) : w.head? ≠ some 35 := by
  simp only [isW, Bool.and_eq_true, bne_iff_ne] at h
  exact h.2
theorem tw_word (w r : List UInt8) (hw : ∀ c ∈ w, nb c = true) (hr : r = [] ∨ ∃ c q, r = c :: q ∧ nb c = false) : (w ++ r).takeWhile nb = w ∧ (w ++ r).dropWhile nb = r := by
  induction w with
  | nil =>
    rcases hr with rfl | ⟨c, q, rfl, hc⟩
    · exact ⟨rfl, rfl⟩
    · simp [List.takeWhile_cons, List.dropWhile_cons, hc]
  | cons c w ih =>
    have hc := hw c List.mem_cons_self
    obtain ⟨h1, h2⟩ := ih (fun x hx => hw x (List.mem_cons_of_mem _ hx))
    rw [List.cons_append, List.takeWhile_cons, List.dropWhile_cons, if_pos hc, if_pos hc, h1, h2]
    exact ⟨rfl, rfl⟩
/-- One word in front. -/
theorem Ws_word (w r : List UInt8) (a : Int) (h : isW w = true) (hr : r = [] ∨ ∃ c q, r = c :: q ∧ nb c = false) : Ws (w ++ r) a = (⟨B w, a⟩ : S34) :: Ws r (a + (w.length : Int)) := by
  obtain ⟨t1, t2⟩ := tw_word w r (fun c hc => (isW_all h c hc).1) hr
  cases w with
  | nil => exact absurd rfl (isW_ne h)
  | cons c w =>
    have hb : blank c = false := by
      have := (isW_all h c List.mem_cons_self).1
      simpa [nb] using this
    have h35 : ¬ c = 35 := fun e => isW_head h (by simp [e])
    unfold Ws
    rw [List.cons_append] at t1 t2 ⊢
    rw [List.length_cons]
    conv => lhs; unfold Wd
    rw [if_neg (by simp [hb]), if_neg h35]
    have e1 : List.takeWhile (fun x => !blank x) (c :: (w ++ r)) = c :: w := t1
    have e2 : List.dropWhile (fun x => !blank x) (c :: (w ++ r)) = r := t2
    rw [e1, e2]
    congr 1
    exact Wd_fuel (w ++ r).length r.length r _ (by rw [List.length_append]; omega) (Nat.le_refl _)
theorem Ws_blank (c : UInt8) (r : List UInt8) (a : Int) (h : blank c = true) : Ws (c :: r) a = Ws r (a + 1) := by
  show Wd (r.length + 1) (c :: r) a = Wd r.length r (a + 1)
  conv => lhs; unfold Wd
  rw [if_pos h]
theorem Ws_note (r : List UInt8) (a : Int) : Ws (35 :: r) a = [] := by
  unfold Ws
  rw [List.length_cons]
  unfold Wd
  rw [if_neg (by decide), if_pos rfl]
theorem Ws_nil (a : Int) : Ws [] a = [] := rfl
def fine (c : UInt8) : Bool := good c && c != 10 && c != 13
theorem fw_fine : ∀ (l : List UInt8), (∀ c ∈ l, fine c = true) → fw l = none
  | [], _ => rfl
  | c :: l, h => by
    have hc := h c List.mem_cons_self
    unfold fw
    rw [if_pos (by simp [fine] at hc; exact hc.1.1), fw_fine l (fun x hx => h x (List.mem_cons_of_mem _ hx))]
    rfl
theorem bare_fine (l : List UInt8) (h : ∀ c ∈ l, fine c = true) : bareL l = l := by
  unfold bareL
  rw [if_neg]
  intro e
  have := h 13 (List.mem_of_getLast? e)
  exact absurd this (by decide)
theorem bare_cr (l : List UInt8) : bareL (l ++ [13]) = l := by
  unfold bareL
  simp
theorem split_at : ∀ (p rest : List UInt8), (∀ c ∈ p, c ≠ 10) → splitL 10 (p ++ 10 :: rest) = p :: splitL 10 rest
  | [], rest, _ => by rw [List.nil_append, splitL_cons, if_pos rfl]
  | c :: p, rest, h => by
    rw [List.cons_append, splitL_cons, if_neg (h c List.mem_cons_self), split_at p rest (fun x hx => h x (List.mem_cons_of_mem _ hx))]
theorem fine_10 {l : List UInt8} (h : ∀ c ∈ l, fine c = true) : ∀ c ∈ l, c ≠ 10 := fun c hc e => by
  have := h c hc; subst e; exact absurd this (by decide)

/-! ### The text so far -/
theorem piece_step (p : List UInt8) (rest : List UInt8) (hp : ∀ c ∈ p, c ≠ 10) (hf : fw (bareL p) = none) (at_ : Nat) (out : List S32) (ws : List S34) (hw : Ws (bareL p) (at_ : Int) = ws) :
    pw (splitL 10 (p ++ 10 :: rest)) at_ = pw (splitL 10 rest) (at_ + p.length + 1) ∧ lg (splitL 10 (p ++ 10 :: rest)) out (at_ : Int) = lg (splitL 10 rest) (put out ws) ((at_ + p.length + 1 : Nat) : Int) := by
  rw [split_at p rest hp]
  constructor
  · conv => lhs; unfold pw
    rw [hf]
  · conv => lhs; unfold lg
    rw [hw]
    congr 1
theorem mem_fine {l : List UInt8} (h : l.all fine = true) : ∀ c ∈ l, fine c = true := fun c hc => List.all_eq_true.1 h c hc
theorem all_app {a b : List UInt8} (ha : ∀ c ∈ a, fine c = true) (hb : b.all fine = true) : ∀ c ∈ a ++ b, fine c = true := fun c hc => by
  rcases List.mem_append.1 hc with h | h
  · exact ha c h
  · exact mem_fine hb c h
/-! ### Words with blanks around them -/
theorem Ws_blanks : ∀ (x r : List UInt8) (a : Int), x.all blank = true → Ws (x ++ r) a = Ws r (a + (x.length : Int))
  | [], r, a, _ => by simp
  | c :: x, r, a, h => by
    simp only [List.all_cons, Bool.and_eq_true] at h
    rw [List.cons_append, Ws_blank c _ _ h.1, Ws_blanks x r _ h.2, List.length_cons]
    congr 1; omega
def Seg := List UInt8 × List UInt8 × List UInt8
def okS (s : List UInt8 × List UInt8 × List UInt8) : Bool := s.1.all blank && isW s.2.1 && s.2.2.all blank && !s.2.2.isEmpty && s.1.all fine && s.2.1.all fine && s.2.2.all fine
def body : List (List UInt8 × List UInt8 × List UInt8) → List UInt8
  | [] => []
  | s :: r => s.1 ++ (s.2.1 ++ (s.2.2 ++ body r))
def wat : List (List UInt8 × List UInt8 × List UInt8) → Int → List S34
  | [], _ => []
  | s :: r, a => (⟨B s.2.1, a + (s.1.length : Int)⟩ : S34) :: wat r (a + (s.1.length : Int) + (s.2.1.length : Int) + (s.2.2.length : Int))
theorem body_snoc : ∀ (l : List (List UInt8 × List UInt8 × List UInt8)) s, body (l ++ [s]) = body l ++ (s.1 ++ (s.2.1 ++ s.2.2))
  | [], s => by simp [body]
  | x :: l, s => by rw [List.cons_append]; unfold body; rw [body_snoc l s]; simp
theorem wat_len : ∀ l a, (wat l a).length = l.length
  | [], _ => rfl
  | x :: l, a => by unfold wat; simp [wat_len l]
theorem okS_iff {s : List UInt8 × List UInt8 × List UInt8} (h : okS s = true) : s.1.all blank = true ∧ isW s.2.1 = true ∧ s.2.2.all blank = true ∧ s.2.2 ≠ [] ∧ s.1.all fine = true ∧ s.2.1.all fine = true ∧ s.2.2.all fine = true := by
  unfold okS at h
  simp only [Bool.and_eq_true] at h
  obtain ⟨⟨⟨⟨⟨⟨a, b⟩, c⟩, d⟩, e⟩, f⟩, g⟩ := h
  exact ⟨a, b, c, by intro z; rw [z] at d; simp at d, e, f, g⟩
theorem Ws_body : ∀ (l : List (List UInt8 × List UInt8 × List UInt8)) (t : List UInt8) (a : Int), (∀ s ∈ l, okS s = true) → (∀ b, Ws t b = []) → Ws (body l ++ t) a = wat l a
  | [], t, a, _, ht => by simp [body, wat, ht]
  | s :: r, t, a, h, ht => by
    obtain ⟨h1, h2, h3, h4, _, _, _⟩ := okS_iff (h s List.mem_cons_self)
    unfold body wat
    rw [List.append_assoc, List.append_assoc, List.append_assoc, Ws_blanks _ _ _ h1, Ws_word _ _ _ h2 ?_, Ws_blanks _ _ _ h3, Ws_body r t _ (fun x hx => h x (List.mem_cons_of_mem _ hx)) ht]
    right
    cases hs : s.2.2 with
    | nil => exact absurd hs h4
    | cons c q =>
      refine ⟨c, q ++ (body r ++ t), by simp, ?_⟩
      rw [hs] at h3
      simp only [List.all_cons, Bool.and_eq_true] at h3
      simp [nb, h3.1]
theorem body_fine : ∀ (l : List (List UInt8 × List UInt8 × List UInt8)), (∀ s ∈ l, okS s = true) → ∀ c ∈ body l, fine c = true
  | [], _, c, hc => by cases hc
  | s :: r, h, c, hc => by
    obtain ⟨_, _, _, _, h5, h6, h7⟩ := okS_iff (h s List.mem_cons_self)
    unfold body at hc
    rcases List.mem_append.1 hc with hc | hc
    · exact mem_fine h5 c hc
    · rcases List.mem_append.1 hc with hc | hc
      · exact mem_fine h6 c hc
      · rcases List.mem_append.1 hc with hc | hc
        · exact mem_fine h7 c hc
        · exact body_fine r (fun x hx => h x (List.mem_cons_of_mem _ hx)) c hc
theorem body_len : ∀ (l : List (List UInt8 × List UInt8 × List UInt8)), (∀ s ∈ l, s.1.length ≤ 3 ∧ s.2.1.length ≤ 4 ∧ s.2.2.length ≤ 3) → (body l).length ≤ 10 * l.length
  | [], _ => Nat.le_refl _
  | s :: r, h => by
    have ih := body_len r (fun x hx => h x (List.mem_cons_of_mem _ hx))
    have := h s List.mem_cons_self
    unfold body
    simp only [List.length_append, List.length_cons]
    omega
/-- Where each word stands. -/
theorem wat_at : ∀ (l : List (List UInt8 × List UInt8 × List UInt8)) (j : Nat) (a : Int) (hj : j < l.length), ∃ p : Nat, rd_T34 (wat l a) (j : Int) = (⟨B (l[j]).2.1, a + (p : Int)⟩ : S34) ∧ ∃ q, (body l).drop p = (l[j]).2.1 ++ q ∧ p ≤ (body l).length
  | s :: r, 0, a, _ => by
    refine ⟨s.1.length, rfl, s.2.2 ++ body r, ?_, ?_⟩
    · show List.drop s.1.length (s.1 ++ (s.2.1 ++ (s.2.2 ++ body r))) = s.2.1 ++ (s.2.2 ++ body r)
      rw [List.drop_left]
    · unfold body; rw [List.length_append]; omega
  | s :: r, j + 1, a, hj => by
    obtain ⟨p, h1, q, h2, h3⟩ := wat_at r j (a + (s.1.length : Int) + (s.2.1.length : Int) + (s.2.2.length : Int)) (by simpa using hj)
    refine ⟨s.1.length + (s.2.1.length + (s.2.2.length + p)), ?_, q, ?_, ?_⟩
    · have e : rd_T34 (wat (s :: r) a) ((j + 1 : Nat) : Int) = rd_T34 (wat r (a + (s.1.length : Int) + (s.2.1.length : Int) + (s.2.2.length : Int))) (j : Int) := by
        unfold rd_T34
        rw [Int.toNat_natCast, Int.toNat_natCast]; rfl
      rw [e, h1, List.getElem_cons_succ]
      congr 1; omega
    · unfold body
      rw [← List.drop_drop, List.drop_left, ← List.drop_drop, List.drop_left, ← List.drop_drop, List.drop_left, h2, List.getElem_cons_succ]
    · unfold body; simp only [List.length_append]; omega
/-! ### The text's lines -/
theorem split_none : ∀ (p : List UInt8), (∀ c ∈ p, c ≠ 10) → splitL 10 p = [p]
  | [], _ => rfl
  | c :: p, h => by
    rw [splitL_cons, if_neg (h c List.mem_cons_self), split_none p (fun x hx => h x (List.mem_cons_of_mem _ hx))]
theorem piece_last (p : List UInt8) (hp : ∀ c ∈ p, c ≠ 10) (hf : fw (bareL p) = none) (at_ : Nat) (out : List S32) (ws : List S34) (hw : Ws (bareL p) (at_ : Int) = ws) :
    pw (splitL 10 p) at_ = none ∧ lg (splitL 10 p) out (at_ : Int) = put out ws := by
  rw [split_none p hp]
  constructor
  · unfold pw; rw [hf]; rfl
  · unfold lg; rw [hw]; rfl
def preL : List (List UInt8) := [[], [35, 32, 97, 10], [13, 10], [32, 9, 10]]
def endL : List (List UInt8) := [[], [35, 32, 98, 32, 99], [10, 10], [32, 13, 10, 35, 32, 100, 13]]
theorem pre_step (p : List UInt8) (hp : p ∈ preL) (R : List UInt8) : pw (splitL 10 (p ++ R)) 0 = pw (splitL 10 R) p.length ∧ lg (splitL 10 (p ++ R)) [] 0 = lg (splitL 10 R) [] (p.length : Int) := by
  simp only [preL, List.mem_cons, List.not_mem_nil, or_false] at hp
  have pn : ∀ o : List S32, put o [] = o := fun o => rfl
  rcases hp with rfl | rfl | rfl | rfl
  · exact ⟨rfl, rfl⟩
  · have := piece_step [35, 32, 97] R (by decide) (by decide) 0 [] [] (by rw [show bareL [35, 32, 97] = [35, 32, 97] by decide, Ws_note])
    exact this
  · have := piece_step [13] R (by decide) (by decide) 0 [] [] (by rw [show bareL [13] = [] by decide]; rfl)
    exact this
  · have := piece_step [32, 9] R (by decide) (by decide) 0 [] [] (by rw [show bareL [32, 9] = [32, 9] by decide, Ws_blank _ _ _ (by decide), Ws_blank _ _ _ (by decide)]; rfl)
    exact this
theorem fineF {l t : List UInt8} (hl : ∀ c ∈ l, fine c = true) (ht : t.all fine = true) : fw (bareL (l ++ t)) = none ∧ bareL (l ++ t) = l ++ t ∧ ∀ c ∈ l ++ t, c ≠ 10 := by
  have h := all_app hl ht
  rw [bare_fine _ h]
  exact ⟨fw_fine _ h, rfl, fine_10 h⟩
theorem end_step (l : List (List UInt8 × List UInt8 × List UInt8)) (hl : ∀ s ∈ l, okS s = true) (e : List UInt8) (he : e ∈ endL) (at_ : Nat) :
    pw (splitL 10 (body l ++ e)) at_ = none ∧ lg (splitL 10 (body l ++ e)) [] (at_ : Int) = put [] (wat l (at_ : Int)) := by
  have hb := body_fine l hl
  have pn : ∀ o : List S32, put o [] = o := fun o => rfl
  simp only [endL, List.mem_cons, List.not_mem_nil, or_false] at he
  rcases he with rfl | rfl | rfl | rfl
  · obtain ⟨f1, f2, f3⟩ := fineF (t := []) hb rfl
    exact piece_last _ f3 f1 _ _ _ (by rw [f2]; exact Ws_body l [] _ hl (fun b => rfl))
  · obtain ⟨f1, f2, f3⟩ := fineF (t := [35, 32, 98, 32, 99]) hb (by decide)
    exact piece_last _ f3 f1 _ _ _ (by rw [f2]; exact Ws_body l _ _ hl (fun b => Ws_note _ _))
  · obtain ⟨f1, f2, f3⟩ := fineF (t := []) hb rfl
    rw [List.append_nil] at f1 f2 f3
    have a := piece_step (body l) [10] f3 f1 at_ [] (wat l (at_ : Int)) (by rw [f2, ← List.append_nil (body l)]; exact Ws_body l [] _ hl (fun b => rfl))
    have b := piece_step [] [] (fun c hc => by cases hc) rfl (at_ + (body l).length + 1) (put [] (wat l (at_ : Int))) [] rfl
    have c := piece_last [] (fun c hc => by cases hc) rfl (at_ + (body l).length + 1 + 0 + 1) (put [] (wat l (at_ : Int))) [] rfl
    rw [pn] at b c
    exact ⟨a.1.trans (b.1.trans c.1), a.2.trans (b.2.trans c.2)⟩
  · have h32 : ∀ c ∈ body l ++ [32], fine c = true := all_app hb (by decide)
    have a := piece_step (body l ++ [32] ++ [13]) [35, 32, 100, 13] (fun c hc => by
        rcases List.mem_append.1 hc with h | h
        · exact fine_10 h32 c h
        · simp at h; subst h; decide) (by rw [bare_cr]; exact fw_fine _ h32) at_ [] (wat l (at_ : Int)) (by
        rw [bare_cr]; exact Ws_body l [32] _ hl (fun b => by rw [Ws_blank _ _ _ (by decide)]; rfl))
    have c := piece_last [35, 32, 100, 13] (by decide) (by decide) (at_ + (body l ++ [32] ++ [13]).length + 1) (put [] (wat l (at_ : Int))) [] (by
      rw [show bareL [35, 32, 100, 13] = [35, 32, 100] by decide, Ws_note])
    rw [pn] at c
    have e1 : body l ++ [32, 13, 10, 35, 32, 100, 13] = body l ++ [32] ++ [13] ++ 10 :: [35, 32, 100, 13] := by simp
    rw [e1]
    exact ⟨a.1.trans c.1, a.2.trans c.2⟩
theorem text_spec (p : List UInt8) (hp : p ∈ preL) (l : List (List UInt8 × List UInt8 × List UInt8)) (hl : ∀ s ∈ l, okS s = true) (e : List UInt8) (he : e ∈ endL) (hs : (p ++ (body l ++ e)).length ≤ 2000) :
    spec (p ++ (body l ++ e)) = (put [] (wat l (p.length : Int)), 0, 0) := by
  have a := pre_step p hp (body l ++ e)
  have b := end_step l hl e he p.length
  unfold PureN.spec
  have hc := List.count_le_length (a := (10 : UInt8)) (l := p ++ (body l ++ e))
  rw [if_neg (by omega), if_neg (by omega), a.1, b.1, a.2, b.2]
/-! ### The numbers' words -/
def sA : List (List UInt8) := [[], [32], [9], [32, 32, 9]]
def sW : List (List UInt8) := [[97], [98], [117, 115, 101, 114], [47, 120], [49, 35]]
def sB : List (List UInt8) := [[32], [9], [32, 9, 32]]
def pk (L : List (List UInt8)) (i : Int) : List UInt8 := L.getD i.toNat []
def sg (x : Int) : List UInt8 × List UInt8 × List UInt8 := (pk sA (Go.bits .and .i64 (x / 16) 3), pk sW (Int.tmod (Go.bits .and .i64 x 255) 5), pk sB (Int.tmod (Go.bits .and .i64 (x / 256) 255) 3))
theorem rd_pk (L : List (List UInt8)) (i : Int) (h0 : 0 ≤ i) (h1 : i < (L.length : Int)) : rdOf ByteArray.empty (L.map B) i = B (pk L i) := by
  unfold rdOf pk
  rw [List.getD_eq_getElem?_getD, List.getD_eq_getElem?_getD, List.getElem?_map, List.getElem?_eq_getElem (by omega)]
  rfl
theorem pk_mem (L : List (List UInt8)) (i : Int) (h0 : 0 ≤ i) (h1 : i < (L.length : Int)) : pk L i ∈ L := by
  unfold pk
  rw [List.getD_eq_getElem?_getD, List.getElem?_eq_getElem (by omega)]
  exact List.getElem_mem _
theorem and3b (x : Int) : 0 ≤ Go.bits .and .i64 x 3 ∧ Go.bits .and .i64 x 3 < 4 := by
  have h := and_small x 3 (by decide)
  have e : ((3 : Nat) : Int) = 3 := rfl
  rw [e] at h; omega
theorem modb (x : Int) (m : Nat) (hm : 0 < m) : 0 ≤ Int.tmod (Go.bits .and .i64 x 255) m ∧ Int.tmod (Go.bits .and .i64 x 255) m < m := by
  have := and_small x 255 (by decide)
  exact ⟨Int.tmod_nonneg _ this.1, Int.tmod_lt_of_pos _ (by omega)⟩
theorem mod5 (x : Int) : 0 ≤ Int.tmod (Go.bits .and .i64 x 255) 5 ∧ Int.tmod (Go.bits .and .i64 x 255) 5 < 5 := modb x 5 (by decide)
theorem mod3 (x : Int) : 0 ≤ Int.tmod (Go.bits .and .i64 x 255) 3 ∧ Int.tmod (Go.bits .and .i64 x 255) 3 < 3 := modb x 3 (by decide)
theorem and3c (x : Int) : Go.bits .and .i64 x 3 < ((4 : Nat) : Int) := (and3b x).2
theorem mod5c (x : Int) : Int.tmod (Go.bits .and .i64 x 255) 5 < ((5 : Nat) : Int) := (mod5 x).2
theorem mod3c (x : Int) : Int.tmod (Go.bits .and .i64 x 255) 3 < ((3 : Nat) : Int) := (mod3 x).2
theorem okAll : sA.all (fun a => sW.all fun w => sB.all fun b => okS (a, w, b) && decide (a.length ≤ 3 ∧ w.length ≤ 4 ∧ b.length ≤ 3)) = true := by decide
theorem sg_ok (x : Int) : okS (sg x) = true ∧ ((sg x).1.length ≤ 3 ∧ (sg x).2.1.length ≤ 4 ∧ (sg x).2.2.length ≤ 3) := by
  have a := pk_mem sA _ (and3b (x / 16)).1 (and3b (x / 16)).2
  have b := pk_mem sW _ (mod5 x).1 (mod5 x).2
  have c := pk_mem sB _ (mod3 (x / 256)).1 (mod3 (x / 256)).2
  have h := List.all_eq_true.1 (List.all_eq_true.1 (List.all_eq_true.1 okAll _ a) _ b) _ c
  simp only [Bool.and_eq_true, decide_eq_true_eq] at h
  exact h
theorem rd_get (l : List Int) (i : Nat) (h : i < l.length) : rd l (i : Int) = l[i] := by
  unfold rd
  rw [Int.toNat_natCast, List.getD_eq_getElem?_getD, List.getElem?_eq_getElem h]; rfl

/-! ### The loops of the law -/
def hd (n : Int) : List UInt8 := pk preL (Go.bits .and .i64 n 3)
def tl (n : Int) : List UInt8 := pk endL (Go.bits .and .i64 (n / 4) 3)
theorem hd_mem (n : Int) : hd n ∈ preL := pk_mem preL _ (and3b n).1 (and3b n).2
theorem tl_mem (n : Int) : tl n ∈ endL := pk_mem endL _ (and3b (n / 4)).1 (and3b (n / 4)).2
theorem pre_len : ∀ p ∈ preL, p.length ≤ 4 := by decide
theorem end_len : ∀ p ∈ endL, p.length ≤ 7 := by decide
/-- The words are held against the numbers. -/
theorem check_ev (l : List Int) (n : Int) (w : Nat) (hw : w ≤ l.length) (h0 : 0 < w) (h10 : w ≤ 10) (T : List UInt8) (hT : T = hd n ++ (body ((l.take w).map sg) ++ tl n)) (a : Int) (ws : List S34) (hws : ws = wat ((l.take w).map sg) ((hd n).length : Int)) :
    ∀ (d j : Nat), w - j = d → j ≤ w → Ev (fun k => entaillaw12_LineNotes.l1 k l (B T) (w : Int) [(⟨a, ws⟩ : S32)] (j : Int)) true
  | 0, j, hd0, hj => by
    refine Ev.step (g := fun k => (entaillaw12_awake.f k).bind fun t => some t) (fun k => ?_) (Ev.bind awake_ev (Ev.pure _))
    conv => lhs; unfold entaillaw12_LineNotes.l1
    rw [if_neg (by omega)]
  | d + 1, j, hd0, hj => by
    have ih := check_ev l n w hw h0 h10 T hT a ws hws d (j + 1) (by omega) (by omega)
    have hj2 : j < w := by omega
    have hjl : j < l.length := by omega
    have len1 : ((l.take w).map sg).length = w := by rw [List.length_map, List.length_take]; omega
    obtain ⟨p, h1, q, h2, h3⟩ := wat_at ((l.take w).map sg) j ((hd n).length : Int) (by omega)
    have hg : ((l.take w).map sg)[j]'(by omega) = sg l[j] := by simp
    rw [hg, ← hws] at h1
    rw [hg] at h2
    have hlw : ws.length = w := by rw [hws, wat_len, len1]
    have okw := sg_ok l[j]
    have hpl := pre_len _ (hd_mem n)
    have hel := end_len _ (tl_mem n)
    have hbl := body_len ((l.take w).map sg) (fun s hs => by
      obtain ⟨x, _, rfl⟩ := List.mem_map.1 hs
      exact (sg_ok x).2)
    have hlT : T.length = (hd n).length + ((body ((l.take w).map sg)).length + (tl n).length) := by rw [hT]; simp
    have hpw : p + (sg l[j]).2.1.length ≤ (body ((l.take w).map sg)).length := by
      have := congrArg List.length h2
      rw [List.length_drop, List.length_append] at this; omega
    have cut : (T.drop ((hd n).length + p)).take (sg l[j]).2.1.length = (sg l[j]).2.1 := by
      rw [hT, ← List.drop_drop, List.drop_left, List.drop_append_of_le_length h3, h2, List.append_assoc, List.take_left]
    have hrow : rd_T32 [(⟨a, ws⟩ : S32)] 0 = (⟨a, ws⟩ : S32) := rfl
    refine Ev.step (g := fun k => entaillaw12_LineNotes.j4 k l (B T) (w : Int) [(⟨a, ws⟩ : S32)] (j : Int) false) (fun k => ?_) (Ev.step (fun k => ?_) ih)
    · conv => lhs; unfold entaillaw12_LineNotes.l1
      rw [if_pos (by omega), if_pos (by simp), if_pos (by omega), hrow]
      simp only
      rw [if_pos (by omega)]
      have hE : ([(⟨#[97]⟩ : ByteArray), (⟨#[98]⟩ : ByteArray), (⟨#[117, 115, 101, 114]⟩ : ByteArray), (⟨#[47, 120]⟩ : ByteArray), (⟨#[49, 35]⟩ : ByteArray)] : List ByteArray) = sW.map B := rfl
      have hlW : (sW.map B).length = 5 := rfl
      rw [hE, Option.bind_some, if_pos (by omega), rd_get l j hjl, if_pos (mod5 l[j]).1, hlW, if_pos (mod5c l[j]), rd_pk sW _ (mod5 l[j]).1 (mod5 l[j]).2, h1]
      simp only
      have e1 : pk sW (Int.tmod (Go.bits .and .i64 l[j] 255) 5) = (sg l[j]).2.1 := rfl
      rw [e1, if_pos rfl, B_size, B_size, wrap_small (by omega) (by omega), if_neg (by omega), if_neg (by omega), if_pos (by omega), if_pos (by omega), if_pos (by omega)]
      congr 1
      have e2 : (((hd n).length : Int) + (p : Int)).toNat = (hd n).length + p := by omega
      have e3 : (((hd n).length : Int) + (p : Int) + ((sg l[j]).2.1.length : Int)).toNat = (hd n).length + p + (sg l[j]).2.1.length := by omega
      rw [e2, e3, B_cut, Nat.add_sub_cancel_left, cut]
      simp
    · rw [entaillaw12_LineNotes.j4, if_neg (by decide), nat_wrap1 (by omega)]
theorem fin_ev (l : List Int) (n : Int) (w : Nat) (hw : w ≤ l.length) (h10 : w ≤ 10) : Ev (fun k => entaillaw12_LineNotes.j1 k l n (B (hd n ++ body ((l.take w).map sg))) (w : Int) (w : Int) false) true := by
  have len1 : ((l.take w).map sg).length = w := by rw [List.length_map, List.length_take]; omega
  have hpl := pre_len _ (hd_mem n)
  have hel := end_len _ (tl_mem n)
  have hbl := body_len ((l.take w).map sg) (fun s hs => by
    obtain ⟨x, _, rfl⟩ := List.mem_map.1 hs
    exact (sg_ok x).2)
  have hok : ∀ s ∈ (l.take w).map sg, okS s = true := fun s hs => by
    obtain ⟨x, _, rfl⟩ := List.mem_map.1 hs
    exact (sg_ok x).1
  obtain ⟨T, hT⟩ : ∃ T, T = hd n ++ (body ((l.take w).map sg) ++ tl n) := ⟨_, rfl⟩
  have hlT : T.length = (hd n).length + ((body ((l.take w).map sg)).length + (tl n).length) := by rw [hT]; simp
  have sp : spec T = (put [] (wat ((l.take w).map sg) ((hd n).length : Int)), 0, 0) := by
    rw [hT]
    exact text_spec _ (hd_mem n) _ hok _ (tl_mem n) (by rw [← hT]; omega)
  have hL := Lines_ev T
  rw [sp] at hL
  have hE : ([(⟨#[]⟩ : ByteArray), (⟨#[35, 32, 98, 32, 99]⟩ : ByteArray), (⟨#[10, 10]⟩ : ByteArray), (⟨#[32, 13, 10, 35, 32, 100, 13]⟩ : ByteArray)] : List ByteArray) = endL.map B := rfl
  have hlE : (endL.map B).length = 4 := rfl
  have e1 : pk endL (Go.bits .and .i64 (n / 4) 3) = tl n := rfl
  by_cases h0 : 0 < w
  · have hlen : (wat ((l.take w).map sg) ((hd n).length : Int)).length = w := by rw [wat_len, len1]
    obtain ⟨ws, hws⟩ : ∃ ws, ws = wat ((l.take w).map sg) ((hd n).length : Int) := ⟨_, rfl⟩
    have hput : put [] ws = [(⟨(rd_T34 ws 0).f1, ws⟩ : S32)] := by unfold put; rw [if_pos (by rw [hws]; omega)]; rfl
    rw [← hws, hput] at hL
    rw [← hws] at hlen
    have C := check_ev l n w hw h0 h10 T hT (rd_T34 ws 0).f1 ws hws w 0 (by omega) (by omega)
    have J : Ev (fun k => entaillaw12_LineNotes.j2 k l (B T) (w : Int) [(⟨(rd_T34 ws 0).f1, ws⟩ : S32)] false) true := by
      refine Ev.step (fun k => ?_) C
      rw [entaillaw12_LineNotes.j2, if_neg (by decide)]; rfl
    refine Ev.step (g := fun k => (line_Lines.f k (B T)).bind fun b => if b.2.2 = 0 then (if (b.1.length : Int) = 1 then (if 0 < (b.1.length : Int) then (if (((rd_T32 b.1 0).f1).length : Int) = w then (if 0 < (((rd_T32 b.1 0).f1).length : Int) then entaillaw12_LineNotes.j2 k l (B T) (w : Int) b.1 (((rd_T32 b.1 0).f0) != ((rd_T34 ((rd_T32 b.1 0).f1) 0).f1)) else none) else entaillaw12_LineNotes.j2 k l (B T) (w : Int) b.1 true) else none) else entaillaw12_LineNotes.j2 k l (B T) (w : Int) b.1 true) else some false) (fun k => ?_) (Ev.bind hL ?_)
    · rw [entaillaw12_LineNotes.j1, if_neg (by decide)]
      rw [hE, Option.bind_some, if_pos (and3b (n / 4)).1, hlE, if_pos (and3c (n / 4)), rd_pk endL _ (and3b (n / 4)).1 (and3b (n / 4)).2, e1, if_pos (by rw [B_size, B_size, List.length_append]; omega), B_app, List.append_assoc, ← hT]
      simp only [if_neg (show ¬ ((w : Int) = 0) by omega)]
    · refine Ev.congr (fun k => ?_) J
      have hrow : rd_T32 [(⟨(rd_T34 ws 0).f1, ws⟩ : S32)] 0 = (⟨(rd_T34 ws 0).f1, ws⟩ : S32) := rfl
      show (if (0 : Int) = 0 then _ else _) = _
      rw [if_pos rfl, hrow, if_pos (by simp), if_pos (by simp)]
      simp only
      rw [if_pos (by omega), if_pos (by omega)]
      simp
  · obtain rfl : w = 0 := by omega
    refine Ev.step (g := fun k => (line_Lines.f k (B T)).bind fun b => if b.2.2 = 0 then (if (b.1.length : Int) = 0 then ((entaillaw12_awake.f k).bind fun t => some t) else some false) else some false) (fun k => ?_) (Ev.bind hL ?_)
    · rw [entaillaw12_LineNotes.j1, if_neg (by decide)]
      rw [hE, Option.bind_some, if_pos (and3b (n / 4)).1, hlE, if_pos (and3c (n / 4)), rd_pk endL _ (and3b (n / 4)).1 (and3b (n / 4)).2, e1, if_pos (by rw [B_size, B_size, List.length_append]; omega), B_app, List.append_assoc, ← hT]
      simp only [if_pos (show (((0 : Nat) : Int) = 0) from rfl)]
    · refine Ev.congr (fun k => ?_) (Ev.bind awake_ev (Ev.pure _))
      rfl
theorem build_ev (l : List Int) (n : Int) : ∀ (d i : Nat), 10 - i = d → i ≤ 10 → i ≤ l.length → Ev (fun k => entaillaw12_LineNotes.l0 k l n (B (hd n ++ body ((l.take i).map sg))) (i : Int) (i : Int)) true
  | d, i, hdi, hi, hil => by
    by_cases hgo : i < l.length ∧ i < 10
    · obtain ⟨d', rfl⟩ : ∃ d', d = d' + 1 := ⟨d - 1, by omega⟩
      have ih := build_ev l n d' (i + 1) (by omega) (by omega) (by omega)
      refine Ev.step (g := fun k => entaillaw12_LineNotes.j1 k l n (B (hd n ++ body ((l.take i).map sg))) (i : Int) (i : Int) true) (fun k => ?_) (Ev.step (fun k => ?_) ih)
      · conv => lhs; unfold entaillaw12_LineNotes.l0
        rw [if_pos (by omega), decide_eq_true (by omega)]
      · have hpl := pre_len _ (hd_mem n)
        have hbl := body_len ((l.take i).map sg) (fun s hs => by
          obtain ⟨x, _, rfl⟩ := List.mem_map.1 hs
          exact (sg_ok x).2)
        rw [List.length_map, List.length_take] at hbl
        have hx := sg_ok l[i]
        have eA : ([(⟨#[]⟩ : ByteArray), (⟨#[32]⟩ : ByteArray), (⟨#[9]⟩ : ByteArray), (⟨#[32, 32, 9]⟩ : ByteArray)] : List ByteArray) = sA.map B := rfl
        have eW : ([(⟨#[97]⟩ : ByteArray), (⟨#[98]⟩ : ByteArray), (⟨#[117, 115, 101, 114]⟩ : ByteArray), (⟨#[47, 120]⟩ : ByteArray), (⟨#[49, 35]⟩ : ByteArray)] : List ByteArray) = sW.map B := rfl
        have eB : ([(⟨#[32]⟩ : ByteArray), (⟨#[9]⟩ : ByteArray), (⟨#[32, 9, 32]⟩ : ByteArray)] : List ByteArray) = sB.map B := rfl
        have lA : (sA.map B).length = 4 := rfl
        have lW : (sW.map B).length = 5 := rfl
        have lB : (sB.map B).length = 3 := rfl
        have a0 := and3b (l[i] / 16)
        have a1 := mod5 l[i]
        have a2 := mod3 (l[i] / 256)
        have sA1 : pk sA (Go.bits .and .i64 (l[i] / 16) 3) = (sg l[i]).1 := rfl
        have sW1 : pk sW (Int.tmod (Go.bits .and .i64 l[i] 255) 5) = (sg l[i]).2.1 := rfl
        have sB1 : pk sB (Int.tmod (Go.bits .and .i64 (l[i] / 256) 255) 3) = (sg l[i]).2.2 := rfl
        rw [entaillaw12_LineNotes.j1, if_pos rfl, rd_get l i hgo.1, eA, eW, eB, Option.bind_some, if_pos (by omega), if_pos (by omega), if_pos a0.1, lA, if_pos (and3c _), rd_pk sA _ a0.1 a0.2, sA1]
        rw [if_pos (by rw [B_size, B_size, List.length_append]; omega), Option.bind_some, if_pos a1.1, lW, if_pos (mod5c _), rd_pk sW _ a1.1 a1.2, sW1, B_app]
        rw [if_pos (by rw [B_size, B_size, List.length_append, List.length_append]; omega), Option.bind_some, if_pos a2.1, lB, if_pos (mod3c _), rd_pk sB _ a2.1 a2.2, sB1, B_app]
        rw [if_pos (by rw [B_size, B_size, List.length_append, List.length_append, List.length_append]; omega), B_app, nat_wrap1 (by omega)]
        have e : hd n ++ body ((l.take i).map sg) ++ (sg l[i]).1 ++ (sg l[i]).2.1 ++ (sg l[i]).2.2 = hd n ++ body ((l.take (i + 1)).map sg) := by
          rw [List.take_succ_eq_append_getElem hgo.1, List.map_append, List.map_cons, List.map_nil, body_snoc]
          simp
        rw [e]
    · refine Ev.step (g := fun k => entaillaw12_LineNotes.j1 k l n (B (hd n ++ body ((l.take i).map sg))) (i : Int) (i : Int) false) (fun k => ?_) (fin_ev l n i hil hi)
      conv => lhs; unfold entaillaw12_LineNotes.l0
      by_cases h1 : (i : Int) < (l.length : Int)
      · rw [if_pos h1, decide_eq_false (by omega)]
      · rw [if_neg h1]
theorem LineNotes (l : List Int) (n : Int) : ∃ k, entaillaw12_LineNotes.f k l n = some true := by
  refine Ev.ex (Ev.congr (fun k => ?_) (build_ev l n 10 0 rfl (by omega) (Nat.zero_le _)))
  unfold entaillaw12_LineNotes.f
  have hE : ([(⟨#[]⟩ : ByteArray), (⟨#[35, 32, 97, 10]⟩ : ByteArray), (⟨#[13, 10]⟩ : ByteArray), (⟨#[32, 9, 10]⟩ : ByteArray)] : List ByteArray) = preL.map B := rfl
  have hlE : (preL.map B).length = 4 := rfl
  rw [hE, Option.bind_some, if_pos (and3b n).1, hlE, if_pos (and3c n), rd_pk preL _ (and3b n).1 (and3b n).2]
  show _ = entaillaw12_LineNotes.l0 k l n (B (hd n ++ [])) 0 0
  rw [List.append_nil]; rfl
end Go.Proofs.YtamgobcahgcejaaDoor.PureN
