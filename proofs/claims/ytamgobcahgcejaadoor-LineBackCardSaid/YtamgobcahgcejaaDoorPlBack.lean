/- The plain law of LineBack: the printed function answers true at every rows of numbers; and the walk with it. -/
import Derived.Test.YtamgobcahgcejaaDoorPlTells
import Derived.Test.YtamgobcahgcejaaDoorGAx18
namespace Go.Proofs.YtamgobcahgcejaaDoor.Pure
open Go.RowKit Go.Proofs.YtamgobcahgcejaaDoorSeq Go.Proofs.YtamgobcahgcejaaDoor.GA Go.Proofs.YtamgobcahgcejaaDoorW.PrintWords Go.Proofs.YtamgobcahgcejaaDoorW.PrintLast Go.Proofs.YtamgobcahgcejaaDoorW.PrintMore
set_option linter.unusedVariables false
set_option linter.unusedSimpArgs false

/-! ### Words of a joined row -/
theorem Wd_fuel : ∀ (n m : Nat) (l : List UInt8) (a : Int), l.length ≤ n → l.length ≤ m → Wd n l a = Wd m l a
  | 0, m, l, a, hn, _ => by
    obtain rfl : l = [] := List.eq_nil_of_length_eq_zero (by omega)
    rw [Wd_nil, Wd_nil]
  | n + 1, 0, l, a, _, hm => by
    obtain rfl : l = [] := List.eq_nil_of_length_eq_zero (by omega)
    rw [Wd_nil, Wd_nil]
  | n + 1, m + 1, [], a, _, _ => rfl
  | n + 1, m + 1, c :: r, a, hn, hm => by
    unfold Wd
    simp only [List.length_cons] at hn hm
    by_cases hb : blank c
    · rw [if_pos hb, if_pos hb]; exact Wd_fuel n m r _ (by omega) (by omega)
    · rw [if_neg hb, if_neg hb]
      by_cases h35 : c = 35
      · rw [if_pos h35, if_pos h35]
      · rw [if_neg h35, if_neg h35]
        congr 1
        have e : (c :: r).dropWhile (fun x => !blank x) = r.dropWhile (fun x => !blank x) := by
          rw [List.dropWhile_cons]; simp [hb]
        rw [e]
        have hl : (r.dropWhile (fun x => !blank x)).length ≤ r.length := List.Sublist.length_le (List.dropWhile_sublist _)
        exact Wd_fuel n m _ _ (by omega) (by omega)
def isW (w : List UInt8) : Bool := !w.isEmpty && w.all (fun c => nb c && good c && c != 10 && c != 13) && w.head? != some 35
theorem isW_ne {w : List UInt8} (h : isW w = true) : w ≠ [] := by
  rintro rfl; simp [isW] at h
theorem isW_all {w : List UInt8} (h : isW w = true) : ∀ c ∈ w, nb c = true ∧ good c = true ∧ c ≠ 10 ∧ c ≠ 13 := by
  intro c hc
  simp only [isW, Bool.and_eq_true, List.all_eq_true, bne_iff_ne] at h
  have := h.1.2 c hc
  exact ⟨this.1.1.1, this.1.1.2, this.1.2, this.2⟩
theorem isW_head {w : List UInt8} (h : isW w = true) : w.head? ≠ some 35 := by
  simp only [isW, Bool.and_eq_true, bne_iff_ne] at h
  exact h.2
theorem tw_word (w r : List UInt8) (hw : ∀ c ∈ w, nb c = true) (hr : r = [] ∨ ∃ c q, r = c :: q ∧ nb c = false) : (w ++ r).takeWhile nb = w ∧ (w ++ r).dropWhile nb = r := by
  induction w with
  | nil =>
    rcases hr with rfl | ⟨c, q, rfl, hc⟩
    · exact ⟨rfl, rfl⟩
    · simp [List.takeWhile_cons, List.dropWhile_cons, hc]
  | cons c w ih =>
    have hc := hw c List.mem_cons_self
    obtain ⟨h1, h2⟩ := ih (fun x hx => hw x (List.mem_cons_of_mem _ hx))
    rw [List.cons_append, List.takeWhile_cons, List.dropWhile_cons, if_pos hc, if_pos hc, h1, h2]
    exact ⟨rfl, rfl⟩
/-- One word in front. -/
theorem Ws_word (w r : List UInt8) (a : Int) (h : isW w = true) (hr : r = [] ∨ ∃ c q, r = c :: q ∧ nb c = false) : Ws (w ++ r) a = (⟨B w, a⟩ : S34) :: Ws r (a + (w.length : Int)) := by
  obtain ⟨t1, t2⟩ := tw_word w r (fun c hc => (isW_all h c hc).1) hr
  cases w with
  | nil => exact absurd rfl (isW_ne h)
  | cons c w =>
    have hb : blank c = false := by
      have := (isW_all h c List.mem_cons_self).1
      simpa [nb] using this
    have h35 : ¬ c = 35 := fun e => isW_head h (by simp [e])
    unfold Ws
    rw [List.cons_append] at t1 t2 ⊢
    rw [List.length_cons]
    conv => lhs; unfold Wd
    rw [if_neg (by simp [hb]), if_neg h35]
    have e1 : List.takeWhile (fun x => !blank x) (c :: (w ++ r)) = c :: w := t1
    have e2 : List.dropWhile (fun x => !blank x) (c :: (w ++ r)) = r := t2
    rw [e1, e2]
    congr 1
    exact Wd_fuel (w ++ r).length r.length r _ (by rw [List.length_append]; omega) (Nat.le_refl _)
theorem Ws_blank (c : UInt8) (r : List UInt8) (a : Int) (h : blank c = true) : Ws (c :: r) a = Ws r (a + 1) := by
  show Wd (r.length + 1) (c :: r) a = Wd r.length r (a + 1)
  conv => lhs; unfold Wd
  rw [if_pos h]
theorem Ws_note (r : List UInt8) (a : Int) : Ws (35 :: r) a = [] := by
  unfold Ws
  rw [List.length_cons]
  unfold Wd
  rw [if_neg (by decide), if_pos rfl]
theorem Ws_nil (a : Int) : Ws [] a = [] := rfl
def wordsOf : List (List UInt8) → Int → List S34
  | [], _ => []
  | w :: r, a => (⟨B w, a⟩ : S34) :: wordsOf r (a + (w.length : Int) + 1)
def off : List (List UInt8) → Nat
  | [] => 0
  | w :: r => w.length + 1 + off r
theorem off_cons (w : List UInt8) (r : List (List UInt8)) : off (w :: r) = w.length + 1 + off r := rfl
theorem wordsOf_snoc : ∀ (ws : List (List UInt8)) (w : List UInt8) (a : Int), wordsOf (ws ++ [w]) a = wordsOf ws a ++ [(⟨B w, a + (off ws : Nat)⟩ : S34)]
  | [], w, a => by simp [wordsOf, off]
  | x :: r, w, a => by
    have := wordsOf_snoc r w (a + (x.length : Int) + 1)
    rw [List.cons_append]
    unfold wordsOf
    rw [this, List.cons_append]
    rw [off_cons, show a + (x.length : Int) + 1 + ((off r : Nat) : Int) = a + ((x.length + 1 + off r : Nat) : Int) by omega]
theorem off_snoc : ∀ (ws : List (List UInt8)) (w : List UInt8), off (ws ++ [w]) = off ws + w.length + 1
  | [], w => by simp [off]
  | x :: r, w => by
    rw [List.cons_append, off_cons, off_cons, off_snoc r w]; omega
theorem wordsOf_len : ∀ (ws : List (List UInt8)) (a : Int), (wordsOf ws a).length = ws.length
  | [], _ => rfl
  | x :: r, a => by unfold wordsOf; simp [wordsOf_len r]
/-- What follows a joined row is no word of it. -/
def tailT (t : List UInt8) : Prop := t = [] ∨ ∃ c q, t = c :: q ∧ nb c = false
theorem Ws_tail : ∀ (ws : List (List UInt8)) (t : List UInt8) (a : Int), (∀ w ∈ ws, isW w = true) → (∀ b, Ws t b = []) → tailT t → Ws ((glueL ws false) ++ t) a = wordsOf ws (a + 1)
  | [], t, a, _, ht, _ => by simp [glueL, wordsOf, ht]
  | w :: r, t, a, hw, ht, htt => by
    have ih := Ws_tail r t (a + 1 + (w.length : Int)) (fun x hx => hw x (List.mem_cons_of_mem _ hx)) ht htt
    unfold glueL
    rw [if_neg (by decide), List.append_assoc, List.cons_append, Ws_blank 32 _ _ (by decide)]
    rw [Ws_word w _ _ (hw w List.mem_cons_self), ih]
    · rfl
    · cases r with
      | nil => exact htt
      | cons x q => right; exact ⟨32, x ++ (glueL q false ++ t), by simp [glueL], by decide⟩
theorem Ws_join : ∀ (ws : List (List UInt8)) (t : List UInt8) (a : Int), (∀ w ∈ ws, isW w = true) → (∀ b, Ws t b = []) → tailT t → Ws ((glueL ws true) ++ t) a = wordsOf ws a
  | [], t, a, _, ht, _ => by simp [glueL, wordsOf, ht]
  | w :: r, t, a, hw, ht, htt => by
    have ih := Ws_tail r t (a + (w.length : Int)) (fun x hx => hw x (List.mem_cons_of_mem _ hx)) ht htt
    unfold glueL
    rw [if_pos rfl, List.append_assoc, Ws_word w _ _ (hw w List.mem_cons_self), ih]
    · rfl
    · cases r with
      | nil => exact htt
      | cons x q => right; exact ⟨32, x ++ (glueL q false ++ t), by simp [glueL], by decide⟩

/-! ### A piece of such a text -/
def fine (c : UInt8) : Bool := good c && c != 10 && c != 13
theorem glue_fine : ∀ (ws : List (List UInt8)) (b : Bool), (∀ w ∈ ws, isW w = true) → ∀ c ∈ glueL ws b, fine c = true
  | [], _, _, c, hc => by simp [glueL] at hc
  | w :: r, b, hw, c, hc => by
    have ih := glue_fine r false (fun x hx => hw x (List.mem_cons_of_mem _ hx)) c
    have hwc : c ∈ w → fine c = true := fun h => by
      have := isW_all (hw w List.mem_cons_self) c h
      simp [fine, this.2.1, this.2.2.1, this.2.2.2]
    unfold glueL at hc
    rcases List.mem_append.1 hc with h | h
    · split at h
      · exact hwc h
      · rcases List.mem_cons.1 h with h | h
        · subst h; decide
        · exact hwc h
    · exact ih h
theorem fw_fine : ∀ (l : List UInt8), (∀ c ∈ l, fine c = true) → fw l = none
  | [], _ => rfl
  | c :: l, h => by
    have hc := h c List.mem_cons_self
    unfold fw
    rw [if_pos (by simp [fine] at hc; exact hc.1.1), fw_fine l (fun x hx => h x (List.mem_cons_of_mem _ hx))]
    rfl
theorem bare_fine (l : List UInt8) (h : ∀ c ∈ l, fine c = true) : bareL l = l := by
  unfold bareL
  rw [if_neg]
  intro e
  have := h 13 (List.mem_of_getLast? e)
  exact absurd this (by decide)
theorem bare_cr (l : List UInt8) : bareL (l ++ [13]) = l := by
  unfold bareL
  simp
theorem split_at : ∀ (p rest : List UInt8), (∀ c ∈ p, c ≠ 10) → splitL 10 (p ++ 10 :: rest) = p :: splitL 10 rest
  | [], rest, _ => by rw [List.nil_append, splitL_cons, if_pos rfl]
  | c :: p, rest, h => by
    rw [List.cons_append, splitL_cons, if_neg (h c List.mem_cons_self), split_at p rest (fun x hx => h x (List.mem_cons_of_mem _ hx))]
theorem fine_10 {l : List UInt8} (h : ∀ c ∈ l, fine c = true) : ∀ c ∈ l, c ≠ 10 := fun c hc e => by
  have := h c hc; subst e; exact absurd this (by decide)

/-! ### The text so far -/
def endsL : List (List UInt8) := [[10], [32, 35, 32, 110, 111, 116, 101, 10], [13, 10], [10, 10, 32, 35, 32, 120, 32, 121, 10]]
/-- s is read, and want are its lines. -/
def Done (s : List UInt8) (want : List S32) : Prop := ∀ rest, pw (splitL 10 (s ++ rest)) 0 = pw (splitL 10 rest) s.length ∧ lg (splitL 10 (s ++ rest)) [] 0 = lg (splitL 10 rest) want (s.length : Int)
theorem Done.start : Done [] [] := fun rest => ⟨rfl, rfl⟩
theorem piece_step (p : List UInt8) (rest : List UInt8) (hp : ∀ c ∈ p, c ≠ 10) (hf : fw (bareL p) = none) (at_ : Nat) (out : List S32) (ws : List S34) (hw : Ws (bareL p) (at_ : Int) = ws) :
    pw (splitL 10 (p ++ 10 :: rest)) at_ = pw (splitL 10 rest) (at_ + p.length + 1) ∧ lg (splitL 10 (p ++ 10 :: rest)) out (at_ : Int) = lg (splitL 10 rest) (put out ws) ((at_ + p.length + 1 : Nat) : Int) := by
  rw [split_at p rest hp]
  constructor
  · conv => lhs; unfold pw
    rw [hf]
  · conv => lhs; unfold lg
    rw [hw]
    congr 1
theorem mem_fine {l : List UInt8} (h : l.all fine = true) : ∀ c ∈ l, fine c = true := fun c hc => List.all_eq_true.1 h c hc
theorem all_app {a b : List UInt8} (ha : ∀ c ∈ a, fine c = true) (hb : b.all fine = true) : ∀ c ∈ a ++ b, fine c = true := fun c hc => by
  rcases List.mem_append.1 hc with h | h
  · exact ha c h
  · exact mem_fine hb c h
theorem Done.seg {s : List UInt8} {want : List S32} (h : Done s want) (ws : List (List UInt8)) (hw : ∀ w ∈ ws, isW w = true) (e : List UInt8) (he : e ∈ endsL) :
    Done (s ++ (glueL ws true ++ e)) (put want (wordsOf ws (s.length : Int))) := by
  intro rest
  have h1 := h (glueL ws true ++ e ++ rest)
  rw [← List.append_assoc] at h1
  have hg := glue_fine ws true hw
  have len : (s ++ (glueL ws true ++ e)).length = s.length + (glueL ws true).length + e.length := by simp; omega
  rw [len]
  suffices hh : pw (splitL 10 (glueL ws true ++ e ++ rest)) s.length = pw (splitL 10 rest) (s.length + (glueL ws true).length + e.length) ∧
      lg (splitL 10 (glueL ws true ++ e ++ rest)) want (s.length : Int) = lg (splitL 10 rest) (put want (wordsOf ws (s.length : Int))) ((s.length + (glueL ws true).length + e.length : Nat) : Int) from
    ⟨h1.1.trans hh.1, h1.2.trans hh.2⟩
  have plain : ∀ (t : List UInt8) (R : List UInt8), t.all fine = true → (∀ b, Ws t b = []) → tailT t →
      pw (splitL 10 ((glueL ws true ++ t) ++ 10 :: R)) s.length = pw (splitL 10 R) (s.length + (glueL ws true ++ t).length + 1) ∧ lg (splitL 10 ((glueL ws true ++ t) ++ 10 :: R)) want (s.length : Int) = lg (splitL 10 R) (put want (wordsOf ws (s.length : Int))) ((s.length + (glueL ws true ++ t).length + 1 : Nat) : Int) := by
    intro t R ht hWs htt
    have hf := all_app hg ht
    refine piece_step _ R (fine_10 hf) (by rw [bare_fine _ hf]; exact fw_fine _ hf) _ _ _ ?_
    rw [bare_fine _ hf]
    exact Ws_join ws t _ hw hWs htt
  have put_nil : ∀ o : List S32, put o [] = o := fun o => rfl
  simp only [endsL, List.mem_cons, List.not_mem_nil, or_false] at he
  rcases he with rfl | rfl | rfl | rfl
  · have := plain [] rest rfl (fun b => rfl) (.inl rfl)
    simpa using this
  · have := plain [32, 35, 32, 110, 111, 116, 101] rest (by decide) (fun b => by rw [Ws_blank _ _ _ (by decide), Ws_note]) (.inr ⟨32, _, rfl, by decide⟩)
    have e1 : glueL ws true ++ [32, 35, 32, 110, 111, 116, 101, 10] ++ rest = glueL ws true ++ [32, 35, 32, 110, 111, 116, 101] ++ 10 :: rest := by simp
    rw [e1]
    have e2 : s.length + (glueL ws true ++ [32, 35, 32, 110, 111, 116, 101]).length + 1 = s.length + (glueL ws true).length + [32, 35, 32, 110, 111, 116, 101, 10].length := by simp; omega
    rw [e2] at this
    exact this
  · have := piece_step (glueL ws true ++ [13]) rest (fun c hc => by
        rcases List.mem_append.1 hc with h | h
        · exact fine_10 hg c h
        · simp at h; subst h; decide) (by rw [bare_cr]; exact fw_fine _ hg) s.length want (wordsOf ws (s.length : Int)) (by
        rw [bare_cr]
        have := Ws_join ws [] (s.length : Int) hw (fun b => rfl) (.inl rfl)
        rw [List.append_nil] at this
        exact this)
    have e1 : glueL ws true ++ [13, 10] ++ rest = glueL ws true ++ [13] ++ 10 :: rest := by simp
    rw [e1]
    have e2 : s.length + (glueL ws true ++ [13]).length + 1 = s.length + (glueL ws true).length + [13, 10].length := by simp; omega
    rw [e2] at this
    exact this
  · have a := plain [] (10 :: 32 :: 35 :: 32 :: 120 :: 32 :: 121 :: 10 :: rest) rfl (fun b => rfl) (.inl rfl)
    have b := piece_step [] (32 :: 35 :: 32 :: 120 :: 32 :: 121 :: 10 :: rest) (fun c hc => by cases hc) rfl (s.length + (glueL ws true).length + 1) (put want (wordsOf ws (s.length : Int))) [] rfl
    have c := piece_step [32, 35, 32, 120, 32, 121] rest (by decide) (by decide) (s.length + (glueL ws true).length + 2) (put want (wordsOf ws (s.length : Int))) [] (by
      rw [show bareL [32, 35, 32, 120, 32, 121] = [32, 35, 32, 120, 32, 121] by decide, Ws_blank _ _ _ (by decide), Ws_note])
    rw [put_nil] at b c
    rw [List.append_nil] at a
    have e1 : glueL ws true ++ [10, 10, 32, 35, 32, 120, 32, 121, 10] ++ rest = glueL ws true ++ 10 :: 10 :: 32 :: 35 :: 32 :: 120 :: 32 :: 121 :: 10 :: rest := by simp
    rw [e1]
    refine ⟨a.1.trans (b.1.trans (c.1.trans ?_)), a.2.trans (b.2.trans (c.2.trans ?_))⟩
    · congr 1
    · congr 1
theorem Done.spec {s : List UInt8} {want : List S32} (h : Done s want) (h1 : s.length ≤ 2000) : spec s = (want, 0, 0) := by
  have := h []
  rw [List.append_nil] at this
  unfold Pure.spec
  have hc := List.count_le_length (a := (10 : UInt8)) (l := s)
  rw [if_neg (by omega), if_neg (by omega), this.1, this.2]
  rfl

/-! ### The loops of the law -/
def Wl : List (List UInt8) := [[97], [117, 115, 101, 114], [49], [120, 46, 121], [47, 97, 47, 98], [117, 58, 58, 114, 119, 45], [97, 35], [126]]
theorem and_small (x : Int) (m : Nat) (hm : m < 9223372036854775808) : 0 ≤ Go.bits .and .i64 x m ∧ Go.bits .and .i64 x m ≤ m := by
  unfold Go.bits
  simp only
  have h1 : (BitVec.ofInt IntKind.i64.bits x &&& BitVec.ofInt IntKind.i64.bits (m : Int)).toNat ≤ m := by
    rw [BitVec.toNat_and]
    refine Nat.le_trans Nat.and_le_right ?_
    rw [BitVec.ofInt_natCast, BitVec.toNat_ofNat]
    exact Nat.mod_le _ _
  generalize (BitVec.ofInt IntKind.i64.bits x &&& BitVec.ofInt IntKind.i64.bits (m : Int)).toNat = q at h1 ⊢
  rw [IntKind.wrap_i64]
  omega
theorem and7 (x : Int) : 0 ≤ Go.bits .and .i64 x 7 ∧ Go.bits .and .i64 x 7 ≤ 7 := and_small x 7 (by decide)
theorem and3 : ∀ n : Nat, n ≤ 8 → Go.bits .and .i64 (n : Int) 3 = ((n % 4 : Nat) : Int) := by
  intro n hn
  rcases n with _ | _ | _ | _ | _ | _ | _ | _ | _ | n
  all_goals first | decide | omega
theorem pickW (i : Int) (h0 : 0 ≤ i) (h1 : i ≤ 7) : ∃ w, isW w = true ∧ w.length ≤ 6 ∧ rdOf ByteArray.empty (Wl.map B) i = B w := by
  obtain ⟨n, rfl⟩ : ∃ n : Nat, i = n := ⟨i.toNat, by omega⟩
  have hn : n < Wl.length := by simp [Wl]; omega
  refine ⟨Wl[n], ?_, ?_, ?_⟩
  · have : Wl.all isW = true := by decide
    exact List.all_eq_true.1 this _ (List.getElem_mem hn)
  · have : Wl.all (fun w => decide (w.length ≤ 6)) = true := by decide
    exact of_decide_eq_true (List.all_eq_true.1 this _ (List.getElem_mem hn))
  · unfold rdOf
    rw [Int.toNat_natCast, List.getD_eq_getElem?_getD, List.getElem?_map, List.getElem?_eq_getElem hn]
    rfl
theorem pickE (n : Nat) : ∃ e, e ∈ endsL ∧ e.length ≤ 9 ∧ rdOf ByteArray.empty (endsL.map B) ((n % 4 : Nat) : Int) = B e := by
  have hn : n % 4 < endsL.length := by simp [endsL]; omega
  refine ⟨endsL[n % 4], List.getElem_mem hn, ?_, ?_⟩
  · have : endsL.all (fun w => decide (w.length ≤ 9)) = true := by decide
    exact of_decide_eq_true (List.all_eq_true.1 this _ (List.getElem_mem hn))
  · unfold rdOf
    rw [Int.toNat_natCast, List.getD_eq_getElem?_getD, List.getElem?_map, List.getElem?_eq_getElem hn]
    rfl
theorem off_len : ∀ (ws : List (List UInt8)), (∀ w ∈ ws, w.length ≤ 6) → off ws ≤ 7 * ws.length
  | [], _ => Nat.le_refl _
  | w :: r, h => by
    have := off_len r (fun x hx => h x (List.mem_cons_of_mem _ hx))
    have := h w List.mem_cons_self
    rw [off_cons, List.length_cons]; omega
theorem glueL_off : ∀ (ws : List (List UInt8)) (b : Bool), (glueL ws b).length ≤ off ws
  | [], _ => Nat.le_refl _
  | w :: r, b => by
    have := glueL_off r false
    unfold glueL
    rw [List.length_append, off_cons]
    have : (if b then w else 32 :: w).length ≤ w.length + 1 := by split <;> simp
    omega
theorem back_tail (L : List (List Int)) (s : List UInt8) (want : List S32) (i : Nat) (ws : List (List UInt8)) (hw : ∀ w ∈ ws, isW w = true) (hw6 : ∀ w ∈ ws, w.length ≤ 6) (hm : ws.length ≤ 8)
    (hs : s.length ≤ 65 * i) (hi : i < 12) (hwl : want.length ≤ i) (v : Bool)
    (H : ∀ e ∈ endsL, e.length ≤ 9 → Ev (fun k => entaillaw12_LineBack.l0 k L (B (s ++ (glueL ws true ++ e))) (put want (wordsOf ws (s.length : Int))) ((i + 1 : Nat) : Int)) v) :
    Ev (fun k => ((line_Join.f (ws.map B)).bind fun t202 => (if (B s).size + t202.size ≤ 9223372036854775807 then ((some (([(⟨#[10]⟩ : ByteArray), (⟨#[32, 35, 32, 110, 111, 116, 101, 10]⟩ : ByteArray), (⟨#[13, 10]⟩ : ByteArray), (⟨#[10, 10, 32, 35, 32, 120, 32, 121, 10]⟩ : ByteArray)] : List ByteArray) : List ByteArray)).bind fun y203 => (if 0 ≤ (Go.bits .and .i64 ((ws.map B).length : Int) 3) then (if (Go.bits .and .i64 ((ws.map B).length : Int) 3) < (y203.length : Int) then (if ((B s) ++ t202).size + (rdOf ByteArray.empty y203 (Go.bits .and .i64 ((ws.map B).length : Int) 3)).size ≤ 9223372036854775807 then (if ((ws.map B).length : Int) > 0 then (if want.length < 4398046511104 then (entaillaw12_LineBack.l0 k L (((B s) ++ t202) ++ (rdOf ByteArray.empty y203 (Go.bits .and .i64 ((ws.map B).length : Int) 3))) (want ++ [(⟨(s.length : Int), wordsOf ws (s.length : Int)⟩ : S32)]) (wrap64 ((i : Int) + 1))) else (none)) else (entaillaw12_LineBack.l0 k L (((B s) ++ t202) ++ (rdOf ByteArray.empty y203 (Go.bits .and .i64 ((ws.map B).length : Int) 3))) want (wrap64 ((i : Int) + 1)))) else (none)) else (none)) else (none))) else (none)))) v := by
  have hx : ∀ x ∈ ws, x.length ≤ 100 := fun x h => by have := hw6 x h; omega
  obtain ⟨e, he, hel, hpe⟩ := pickE ws.length
  have hE : ([(⟨#[10]⟩ : ByteArray), (⟨#[32, 35, 32, 110, 111, 116, 101, 10]⟩ : ByteArray), (⟨#[13, 10]⟩ : ByteArray), (⟨#[10, 10, 32, 35, 32, 120, 32, 121, 10]⟩ : ByteArray)] : List ByteArray) = endsL.map B := rfl
  have hoff := off_len ws hw6
  have hgl := glueL_off ws true
  refine Ev.congr (fun k => ?_) (H e he hel)
  rw [join_f ws (by omega) hx, Option.bind_some, ← glue_join', hE, List.length_map, and3 _ hm]
  rw [if_pos (by rw [B_size, B_size]; omega), Option.bind_some, hpe, if_pos (by omega), if_pos (by simp [endsL]; omega), B_app, if_pos (by rw [B_size, B_size, List.length_append]; omega), B_app, nat_wrap1 (by omega)]
  rw [List.append_assoc]
  by_cases h0 : 0 < ws.length
  · rw [if_pos (by omega), if_pos (by omega)]
    have hl := wordsOf_len ws (s.length : Int)
    unfold put
    rw [if_pos (by omega)]
    have : (rd_T34 (wordsOf ws (s.length : Int)) 0).f1 = (s.length : Int) := by
      cases ws with
      | nil => simp at h0
      | cons w r => rfl
    rw [this]
  · obtain rfl : ws = [] := List.eq_nil_of_length_eq_zero (by omega)
    rw [if_neg (by simp)]
    rfl
theorem back_l1 (L : List (List Int)) (s : List UInt8) (want : List S32) (i : Nat) (hs : s.length ≤ 65 * i) (hi : i < 12) (hil : i < L.length) (hwl : want.length ≤ i) (v : Bool)
    (H : ∀ (ws : List (List UInt8)) (e : List UInt8), ws.length ≤ 8 → (∀ w ∈ ws, isW w = true) → (∀ w ∈ ws, w.length ≤ 6) → e ∈ endsL → e.length ≤ 9 → Ev (fun k => entaillaw12_LineBack.l0 k L (B (s ++ (glueL ws true ++ e))) (put want (wordsOf ws (s.length : Int))) ((i + 1 : Nat) : Int)) v) :
    ∀ (d j : Nat) (ws : List (List UInt8)), 8 - j = d → j ≤ 8 → ws.length = j → (∀ w ∈ ws, isW w = true) → (∀ w ∈ ws, w.length ≤ 6) →
    Ev (fun k => entaillaw12_LineBack.l1 k L (B s) want (i : Int) (ws.map B) ((s.length + off ws : Nat) : Int) (j : Int) (s.length : Int) (wordsOf ws (s.length : Int))) v
  | d, j, ws, hd, hj, hwj, hw, hw6 => by
    have hoff := off_len ws hw6
    have tail := back_tail L s want i ws hw hw6 (by omega) hs hi hwl v (fun e he hel => H ws e (by omega) hw hw6 he hel)
    by_cases hstop : j < ((rd_L7 L (i : Int)).length) ∧ j < 8
    · obtain ⟨d', rfl⟩ : ∃ d', d = d' + 1 := ⟨d - 1, by omega⟩
      have hb := and7 (rd (rd_L7 L (i : Int)) (j : Int))
      obtain ⟨w, hwW, hw6', hpw⟩ := pickW _ hb.1 hb.2
      have ih := back_l1 L s want i hs hi hil hwl v H d' (j + 1) (ws ++ [w]) (by omega) (by omega) (by simp [hwj]) (fun x hx => by
          rcases List.mem_append.1 hx with h | h
          · exact hw x h
          · simp at h; subst h; exact hwW) (fun x hx => by
          rcases List.mem_append.1 hx with h | h
          · exact hw6 x h
          · simp at h; subst h; exact hw6')
      refine Ev.step (fun k => ?_) ih
      conv => lhs; unfold entaillaw12_LineBack.l1
      have hE : ([(⟨#[97]⟩ : ByteArray), (⟨#[117, 115, 101, 114]⟩ : ByteArray), (⟨#[49]⟩ : ByteArray), (⟨#[120, 46, 121]⟩ : ByteArray), (⟨#[47, 97, 47, 98]⟩ : ByteArray), (⟨#[117, 58, 58, 114, 119, 45]⟩ : ByteArray), (⟨#[97, 35]⟩ : ByteArray), (⟨#[126]⟩ : ByteArray)] : List ByteArray) = Wl.map B := rfl
      have hlW : (Wl.map B).length = 8 := rfl
      have hl1 : (wordsOf ws (s.length : Int)).length = ws.length := wordsOf_len _ _
      rw [if_pos (by omega), if_pos (by omega), if_pos (by omega), if_pos (by omega), hE, Option.bind_some, if_pos (by omega), if_pos (by omega), if_pos (by rw [hlW]; omega), if_pos (by rw [List.length_map]; omega), if_pos (by omega), hpw, B_size]
      rw [wrap_small (n := ((s.length + off ws : Nat) : Int) + (w.length : Int)) (by omega) (by omega), wrap_small (by omega) (by omega), nat_wrap1 (by omega), wordsOf_snoc, off_snoc, List.map_append]
      rw [show ((s.length + off ws : Nat) : Int) + (w.length : Int) + 1 = ((s.length + (off ws + w.length + 1) : Nat) : Int) by omega]
      rw [show (s.length : Int) + ((off ws : Nat) : Int) = ((s.length + off ws : Nat) : Int) by omega]
      rfl
    · refine Ev.step (fun k => ?_) tail
      conv => lhs; unfold entaillaw12_LineBack.l1
      rw [if_pos (by omega), if_pos (by omega)]
      by_cases h1 : (j : Int) < ((rd_L7 L (i : Int)).length : Int)
      · rw [if_pos h1, if_neg (by omega)]
      · rw [if_neg h1]
theorem back_end (s : List UInt8) (want : List S32) (h : Done s want) (hs : s.length ≤ 2000) : Ev (fun k => (line_Lines.f k (B s)).bind fun bt181 => (if bt181.2.2 = 0 then ((entaillaw12_Same.f k bt181.1 want).bind fun t186 => (if t186 = true then ((entaillaw12_awake.f k).bind fun t187 => (some t187)) else (some false))) else (some false))) true := by
  have a := Lines_ev s
  rw [h.spec hs] at a
  refine Ev.bind a ?_
  have t := spec_tame s
  rw [h.spec hs] at t
  refine Ev.congr (fun k => if_pos rfl) ?_
  refine Ev.bind (same_ev want _ (by omega) t) ?_
  exact Ev.congr (fun k => if_pos rfl) (Ev.bind awake_ev (Ev.pure _))
theorem back_l0 (L : List (List Int)) : ∀ (d i : Nat) (s : List UInt8) (want : List S32), 12 - i = d → i ≤ 12 → s.length ≤ 65 * i → want.length ≤ i → Done s want → Ev (fun k => entaillaw12_LineBack.l0 k L (B s) want (i : Int)) true
  | d, i, s, want, hd, hi, hs, hwl, hD => by
    by_cases hgo : i < L.length ∧ i < 12
    · obtain ⟨d', rfl⟩ : ∃ d', d = d' + 1 := ⟨d - 1, by omega⟩
      have l1 := back_l1 L s want i hs (by omega) hgo.1 hwl true (fun ws e hm hw hw6 he hel => by
        have hoff := off_len ws hw6
        have hgl := glueL_off ws true
        have hp := put_len want (wordsOf ws (s.length : Int))
        exact back_l0 L d' (i + 1) _ _ (by omega) (by omega) (by rw [List.length_append, List.length_append]; omega) (by omega) (hD.seg ws hw e he)) 8 0 [] rfl (Nat.zero_le _) rfl (fun w hw => by cases hw) (fun w hw => by cases hw)
      refine Ev.step (g := fun k => entaillaw12_LineBack.j1 k L (B s) want (i : Int) true) (fun k => ?_) (Ev.step (fun k => ?_) l1)
      · conv => lhs; unfold entaillaw12_LineBack.l0
        rw [if_pos (by omega), decide_eq_true (by omega)]
      · rw [entaillaw12_LineBack.j1, if_pos rfl, B_size]
        rfl
    · refine Ev.step (g := fun k => entaillaw12_LineBack.j1 k L (B s) want (i : Int) false) (fun k => ?_) (Ev.step (fun k => ?_) (back_end s want hD (by omega)))
      · conv => lhs; unfold entaillaw12_LineBack.l0
        by_cases h1 : (i : Int) < (L.length : Int)
        · rw [if_pos h1, decide_eq_false (by omega)]
        · rw [if_neg h1]
      · rw [entaillaw12_LineBack.j1]; rfl
theorem LineBack_ev (L : List (List Int)) : Ev (fun k => entaillaw12_LineBack.f k L) true := back_l0 L 12 0 [] [] rfl (by omega) (Nat.zero_le _) (Nat.zero_le _) Done.start
theorem LineBack_walk (A0 : Option Addr) (c0 : Nat) (l0 : List (List Int)) (w : World) (w0 : Kd.C (Kd.slice 2 (Kd.int .i64)) w A0 l0.length l0 ∧ l0.length ≤ c0) (q0 : ∀ x ∈ l0, ∀ y ∈ x, (Lit.int .i64 y).wf = true) :
    Calls Tryd.prog 5 #[.slice A0 l0.length c0] w fun e w' => e = .returned (.bool true) ∧ Below w.heap.size w w' := by
  obtain ⟨k, h⟩ := (LineBack_ev l0).ex
  exact entaillaw12_LineBack.calls k A0 c0 l0 true w w0.1 w0.2 h
end Go.Proofs.YtamgobcahgcejaaDoor.Pure
