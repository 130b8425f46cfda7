/- The plain law of GlobRules: one statement more, one boundary more, none that allows, one that allows all; no program in sight. -/
import Derived.Test.YtppndhbeglcioaaPlNade
import Derived.Test.YtppndhbeglcioaaRu
namespace Go.Proofs.Ytppndhbeglcioaa.Pl
open Go.RowKit Go.Proofs.YtppndhbeglcioaaUniq Go.Proofs.Ytppndhbeglcioaa.GA Go.Proofs.YtppndhbeglcioaaW.PrintWords Go.Proofs.YtppndhbeglcioaaW.PrintLast Go.Proofs.YtppndhbeglcioaaW.PrintMore
set_option linter.unusedVariables false
set_option linter.unusedSimpArgs false
def den (g : List S36) (u a r : ByteArray) (l : List S34) : Bool := l.any fun s => bear g s u a r && s.f1
def alw (g : List S36) (u a r : ByteArray) (l : List S34) : Bool := l.any fun s => bear g s u a r && !s.f1
theorem mayL_eq (g : List S36) (u a r : ByteArray) (z : Bool) : ∀ (l : List S34) (c : Bool), mayL g u a r z c l = (!den g u a r l && ((c || alw g u a r l) && z))
  | [], c => by unfold mayL den alw; simp
  | s :: t, c => by
    unfold mayL
    rw [mayL_eq g u a r z t true, mayL_eq g u a r z t c]
    unfold den alw
    rw [List.any_cons, List.any_cons]
    cases bear g s u a r <;> cases s.f1 <;> simp
theorem may_eq (l0 l1 l2 : List ByteArray) (l3 : List S36) (l4 : List S34) (l5 : List S51) (u a r : ByteArray) : may l0 l1 l2 l3 l4 l5 u a r = (has l0 u && (has l1 a && (has l2 r && (!den l3 u a r l4 && (alw l3 u a r l4 && bnd l5 u a r false))))) := by
  unfold may
  rw [mayL_eq, Bool.false_or]
theorem den_snoc (g : List S36) (u a r : ByteArray) (l : List S34) (x : S34) : den g u a r (l ++ [x]) = (den g u a r l || (bear g x u a r && x.f1)) := by
  unfold den
  rw [List.any_append, List.any_cons, List.any_nil, Bool.or_false]
theorem alw_snoc (g : List S36) (u a r : ByteArray) (l : List S34) (x : S34) : alw g u a r (l ++ [x]) = (alw g u a r l || (bear g x u a r && !x.f1)) := by
  unfold alw
  rw [List.any_append, List.any_cons, List.any_nil, Bool.or_false]
theorem one_more (l0 l1 l2 : List ByteArray) (l3 : List S36) (l4 : List S34) (l5 : List S51) (u a r : ByteArray) (x : S34) :
    (x.f1 = true → may l0 l1 l2 l3 (l4 ++ [x]) l5 u a r = true → may l0 l1 l2 l3 l4 l5 u a r = true) ∧ (x.f1 = false → may l0 l1 l2 l3 l4 l5 u a r = true → may l0 l1 l2 l3 (l4 ++ [x]) l5 u a r = true) := by
  rw [may_eq, may_eq, den_snoc, alw_snoc]
  cases x.f1 <;> cases has l0 u <;> cases has l1 a <;> cases has l2 r <;> cases den l3 u a r l4 <;> cases alw l3 u a r l4 <;> cases bear l3 x u a r <;> cases bnd l5 u a r false <;> simp
theorem bnd_other (l : List S51) (x : S51) (u a r : ByteArray) (h : (x.f0.toList != u.toList) = true) : bnd (l ++ [x]) u a r false = bnd l u a r false := by
  have e : decide (x.f0.toList = u.toList) = false := decide_eq_false (by simpa using h)
  unfold bnd
  rw [List.any_append, List.any_append, List.any_cons, List.any_nil, List.any_cons, List.any_nil, e]
  simp
theorem bnd_free (l : List S51) (u a r : ByteArray) (h : (l.all fun y => y.f0.toList != u.toList) = true) : bnd l u a r false = true := by
  have e : (l.any fun b => decide (b.f0.toList = u.toList)) = false := by
    rw [List.any_eq_false]
    intro y hy
    have := List.all_eq_true.1 h y hy
    simpa using this
  unfold bnd
  rw [e]
  simp
theorem one_bound (l0 l1 l2 : List ByteArray) (l3 : List S36) (l4 : List S34) (l5 : List S51) (u a r : ByteArray) (x : S51) :
    ((l5.all fun y => y.f0.toList != u.toList) = true → may l0 l1 l2 l3 l4 (l5 ++ [x]) u a r = true → may l0 l1 l2 l3 l4 l5 u a r = true) ∧ ((x.f0.toList != u.toList) = true → may l0 l1 l2 l3 l4 (l5 ++ [x]) u a r = may l0 l1 l2 l3 l4 l5 u a r) := by
  rw [may_eq, may_eq]
  refine ⟨fun h => ?_, fun h => by rw [bnd_other l5 x u a r h]⟩
  rw [bnd_free l5 u a r h]
  cases has l0 u <;> cases has l1 a <;> cases has l2 r <;> cases den l3 u a r l4 <;> cases alw l3 u a r l4 <;> simp
theorem none_allows (l0 l1 l2 : List ByteArray) (l3 : List S36) (l4 : List S34) (l5 : List S51) (u a r : ByteArray) : may l0 l1 l2 l3 (l4.filter fun x => x.f1) l5 u a r = false := by
  have e : alw l3 u a r (l4.filter fun x => x.f1) = false := by
    unfold alw
    rw [List.any_eq_false]
    intro y hy
    have := (List.mem_filter.1 hy).2
    simp [this]
  rw [may_eq, e]
  simp
theorem star_B (x : ByteArray) : anyM [(⟨#[42]⟩ : ByteArray)] x = true := by
  unfold anyM mtB mt
  simp
def stA (l0 : List ByteArray) : S34 := ⟨(⟨#[97]⟩ : ByteArray), false, l0, [], [(⟨#[42]⟩ : ByteArray)], [(⟨#[42]⟩ : ByteArray)]⟩
theorem all_allows (l0 l1 l2 : List ByteArray) (u a r : ByteArray) : may l0 l1 l2 [] [stA l0] [] u a r = (has l0 u && (has l1 a && has l2 r)) := by
  rw [may_eq]
  have e1 : bear [] (stA l0) u a r = has l0 u := by
    unfold bear whoB stA
    dsimp only
    rw [star_B, star_B]
    simp
  unfold den alw bnd
  rw [List.any_cons, List.any_cons, e1]
  show (has l0 u && (has l1 a && (has l2 r && (!(has l0 u && false || _) && ((has l0 u && !false || _) && _))))) = _
  simp only [List.any_nil]
  cases has l0 u <;> cases has l1 a <;> cases has l2 r <;> rfl
theorem rd_mem (l : List ByteArray) (i : Int) (h0 : 0 ≤ i) (h : i < (l.length : Int)) : rdOf ByteArray.empty l i ∈ l := by
  unfold rdOf
  have : i.toNat < l.length := by omega
  rw [List.getD_eq_getElem?_getD, List.getElem?_eq_getElem this]
  exact List.getElem_mem this
def askU : List ByteArray := [(⟨#[117]⟩ : ByteArray), (⟨#[118]⟩ : ByteArray), (⟨#[119]⟩ : ByteArray), (⟨#[120]⟩ : ByteArray)]
def askA : List ByteArray := [(⟨#[103, 101, 116]⟩ : ByteArray), (⟨#[103, 101, 116, 97, 108, 108]⟩ : ByteArray), (⟨#[112, 117, 116]⟩ : ByteArray), (⟨#[108, 105, 115, 116]⟩ : ByteArray), (⟨#[122]⟩ : ByteArray)]
def askO : List ByteArray := [(⟨#[97]⟩ : ByteArray), (⟨#[97, 98]⟩ : ByteArray), (⟨#[98]⟩ : ByteArray), (⟨#[99]⟩ : ByteArray)]
theorem ask_vals (n : Int) : ∃ a b c : ByteArray, entaillaw24_Ask.f n = some (false, a, b, c) ∧ a ∈ askU ∧ b ∈ askA ∧ c ∈ askO := by
  have h1 : 0 ≤ Go.bits .and .i64 (n) 3 ∧ Go.bits .and .i64 (n) 3 ≤ 3 := and_small (n) 3 (by decide)
  have h2 : 0 ≤ Int.tmod (Go.bits .and .i64 (n / 4) 255) 5 ∧ Int.tmod (Go.bits .and .i64 (n / 4) 255) 5 < 5 := and_mod (n / 4) 5 (by decide)
  have h3 : 0 ≤ Go.bits .and .i64 (n / 1024) 3 ∧ Go.bits .and .i64 (n / 1024) 3 ≤ 3 := and_small (n / 1024) 3 (by decide)
  refine ⟨_, _, _, ?_, rd_mem askU (Go.bits .and .i64 n 3) h1.1 (by have := h1.2; show _ < ((4 : Nat) : Int); omega), rd_mem askA (Int.tmod (Go.bits .and .i64 (n / 4) 255) 5) h2.1 (by have := h2.2; show _ < ((5 : Nat) : Int); omega), rd_mem askO (Go.bits .and .i64 (n / 1024) 3) h3.1 (by have := h3.2; show _ < ((4 : Nat) : Int); omega)⟩
  unfold entaillaw24_Ask.f
  rw [Option.bind_some, if_pos h1.1, if_pos (by have := h1.2; simp only [List.length_cons, List.length_nil]; omega), Option.bind_some, if_pos h2.1, if_pos (by have := h2.2; simp only [List.length_cons, List.length_nil]; omega), Option.bind_some, if_pos h3.1, if_pos (by have := h3.2; simp only [List.length_cons, List.length_nil]; omega)]
  rfl
theorem has_askU : ∀ u ∈ askU, has madeU u = (u.toList != [120]) ∧ u.size ≤ 8 := by decide +kernel
theorem has_askA : ∀ u ∈ askA, has madeA u = (u.toList != [122]) ∧ u.size ≤ 8 := by decide +kernel
theorem has_askO : ∀ u ∈ askO, has madeR u = (u.toList != [99]) ∧ u.size ≤ 8 := by decide +kernel
theorem fitS_few {x : S34} (h : FewS x) : FitS x := ⟨fit_few h.1, fit_few h.2.1, fit_few h.2.2.1, fit_few h.2.2.2⟩
theorem fitP_few (st : List S34) (bo : List S51) (hs : st.length ≤ 9) (hb : bo.length ≤ 9) (fs : ∀ x ∈ st, FewS x) (fb : ∀ x ∈ bo, FewB x) : FitP madeU madeA madeR madeG st bo :=
  ⟨fit_few (by decide), fit_few (by decide), fit_few (by decide), ⟨by decide, fit_madeG⟩, ⟨by omega, fun x hx => fitS_few (fs x hx)⟩, ⟨by omega, fun x hx => ⟨fit_few (fb x hx).1, fit_few (fb x hx).2⟩⟩⟩
/-- For each of some few elements, from some number of rounds on. -/
theorem all_ev {α : Type} (P : α → Nat → Prop) : ∀ l : List α, (∀ x ∈ l, ∃ K, ∀ k, K ≤ k → P x k) → ∃ K, ∀ k, K ≤ k → ∀ x ∈ l, P x k
  | [], _ => ⟨0, fun k _ x h => by cases h⟩
  | y :: t, h => by
    obtain ⟨K, hK⟩ := h y List.mem_cons_self
    obtain ⟨M, hM⟩ := all_ev P t (fun x hx => h x (List.mem_cons_of_mem _ hx))
    refine ⟨K + M, fun k hk x hx => ?_⟩
    rcases List.mem_cons.1 hx with rfl | hx
    · exact hK k (by omega)
    · exact hM k (by omega) x hx
theorem GlobRules_walk' (A0 : Option Addr) (c0 : Nat) (l0 : List Int) (A1 : Option Addr) (c1 : Nat) (l1 : List Int) (n : Int) (w : World) (hr0 : Kd.C (Kd.int .i64) w A0 l0.length l0) (hc0 : l0.length ≤ c0) (hr1 : Kd.C (Kd.int .i64) w A1 l1.length l1) (hc1 : l1.length ≤ c1) :
    Calls Try.prog 6 #[.slice A0 l0.length c0, .slice A1 l1.length c1, .int .i64 n] w fun e w' => e = .returned (.bool true) ∧ Below w.heap.size w w' := by
  obtain ⟨st, bo, hM, h8, hb8, fs, fb⟩ := nade_ev l0
  obtain ⟨st1, bo1, hM1, h81, hb81, fs1, fb1⟩ := nade_ev l1
  obtain ⟨u, a, o, hA, hu, ha, ho⟩ := ask_vals n
  have hu := has_askU u hu
  have ha := has_askA a ha
  have ho := has_askO o ho
  have P1 := may_ev madeU madeA madeR madeG st bo u a o (fitP_few st bo (by omega) (by omega) fs fb) (by omega) (by omega)
  obtain ⟨kS, hS⟩ := all_ev (fun x k => glob_May.f k madeU madeA madeR madeG (st ++ [x]) bo u a o = some (may madeU madeA madeR madeG (st ++ [x]) bo u a o)) st1 (fun x hx =>
    may_ev madeU madeA madeR madeG (st ++ [x]) bo u a o (fitP_few _ bo (by rw [List.length_append, List.length_singleton]; omega) (by omega) (fun y hy => by
      rcases List.mem_append.1 hy with h | h
      · exact fs y h
      · rw [List.mem_singleton.1 h]; exact fs1 x hx) fb) (by omega) (by omega))
  obtain ⟨kB, hB⟩ := all_ev (fun x k => glob_May.f k madeU madeA madeR madeG st (bo ++ [x]) u a o = some (may madeU madeA madeR madeG st (bo ++ [x]) u a o)) bo1 (fun x hx =>
    may_ev madeU madeA madeR madeG st (bo ++ [x]) u a o (fitP_few st _ (by omega) (by rw [List.length_append, List.length_singleton]; omega) fs (fun y hy => by
      rcases List.mem_append.1 hy with h | h
      · exact fb y h
      · rw [List.mem_singleton.1 h]; exact fb1 x hx)) (by omega) (by omega))
  have P2 := may_ev madeU madeA madeR madeG (st.filter fun x => x.f1) bo u a o (fitP_few _ bo (Nat.le_trans (List.length_filter_le _ _) (by omega)) (by omega) (fun x hx => fs x (List.mem_filter.1 hx).1) fb) (by omega) (by omega)
  have P3 := may_ev madeU madeA madeR [] [stA madeU] [] u a o ⟨fit_few (by decide), fit_few (by decide), fit_few (by decide), ⟨by decide, fun x hx => by cases hx⟩, ⟨by show 1 < _; decide, fun x hx => by
    rw [List.mem_singleton.1 hx]
    exact ⟨fit_few (by decide), fit_few (by decide), fit_few (by decide), fit_few (by decide)⟩⟩, ⟨by decide, fun x hx => by cases hx⟩⟩ (by omega) (by omega)
  rw [none_allows] at P2
  rw [all_allows, hu.1, ha.1, ho.1] at P3
  have hwt : may madeU madeA madeR madeG st bo u a o = true → ((u.toList != [120]) && ((a.toList != [122]) && (o.toList != [99]))) = true := by
    rw [may_eq, hu.1, ha.1, ho.1]
    cases (u.toList != [120]) <;> cases (a.toList != [122]) <;> cases (o.toList != [99]) <;> simp
  obtain ⟨k0, q0⟩ := hM
  obtain ⟨k7, q7⟩ := hM1
  obtain ⟨k1, q1⟩ := P1
  obtain ⟨k2, q2⟩ := P2
  obtain ⟨k3, q3⟩ := P3
  obtain ⟨k6, q6⟩ := awake_ev
  exact GlobRules_walk (k0 + k1 + k2 + k3 + k6 + k7 + kS + kB) A0 c0 l0 A1 c1 l1 n madeU madeA madeR madeG st bo madeU madeA madeR madeG st1 bo1 false u a o w hr0 hc0 hr1 hc1 h8 hb8 h81 hb81 (q0 _ (by omega)) (q7 _ (by omega)) hA
    _ (q1 _ (by omega)) (fun x => may madeU madeA madeR madeG (st ++ [x]) bo u a o) (fun x hx => ⟨hS _ (by omega) x hx, one_more madeU madeA madeR madeG st bo u a o x⟩)
    (fun x => may madeU madeA madeR madeG st (bo ++ [x]) u a o) (fun x hx => ⟨hB _ (by omega) x hx, one_bound madeU madeA madeR madeG st bo u a o x⟩)
    (q2 _ (by omega)) _ (by rw [Bool.and_assoc]) (q3 _ (by omega)) hwt (q6 _ (by omega))
end Go.Proofs.Ytppndhbeglcioaa.Pl
