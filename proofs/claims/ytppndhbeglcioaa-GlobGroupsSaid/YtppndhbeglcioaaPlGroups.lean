/- The plain law of GlobGroups: a statement told for a group's users bears on the same as one told for the group; no program in sight. -/
import Derived.Test.YtppndhbeglcioaaPlMay
import Derived.Test.YtppndhbeglcioaaGr
namespace Go.Proofs.Ytppndhbeglcioaa.Pl
open Go.RowKit Go.Proofs.YtppndhbeglcioaaUniq Go.Proofs.Ytppndhbeglcioaa.GA Go.Proofs.YtppndhbeglcioaaW.PrintWords Go.Proofs.YtppndhbeglcioaaW.PrintLast Go.Proofs.YtppndhbeglcioaaW.PrintMore
set_option linter.unusedVariables false
set_option linter.unusedSimpArgs false
theorem has_append (a b : List ByteArray) (x : ByteArray) : has (a ++ b) x = (has a x || has b x) := List.any_append
theorem has_flatMap {α : Type} (l : List α) (f : α → List ByteArray) (x : ByteArray) : has (l.flatMap f) x = l.any fun a => has (f a) x := by
  induction l with
  | nil => rfl
  | cons a l ih => rw [List.flatMap_cons, has_append, ih, List.any_cons]
theorem has_users (g : List S36) (n u : ByteArray) : has (usersOf g n) u = inn g u n := by
  unfold usersOf inn
  rw [has_flatMap, List.any_filter]
theorem who_turn (g : List S36) (s : S34) (u : ByteArray) : whoB g (turn g s) u = whoB g s u := by
  unfold whoB turn
  dsimp only
  rw [has_append, has_flatMap, List.any_nil, Bool.or_false]
  congr 1
  congr 1
  funext n
  exact has_users g n u
theorem mayL_turn (g : List S36) (u a r : ByteArray) (z : Bool) : ∀ (l : List S34) (c : Bool), mayL g u a r z c (l.map (turn g)) = mayL g u a r z c l
  | [], c => rfl
  | s :: l, c => by
    have e : bear g (turn g s) u a r = bear g s u a r := by
      unfold bear
      rw [who_turn]
      rfl
    rw [List.map_cons]
    unfold mayL
    rw [e, mayL_turn g u a r z l true, mayL_turn g u a r z l c]
    rfl
theorem may_turn (l0 l1 l2 : List ByteArray) (l3 : List S36) (l4 : List S34) (l5 : List S51) (u a r : ByteArray) : may l0 l1 l2 l3 (l4.map (turn l3)) l5 u a r = may l0 l1 l2 l3 l4 l5 u a r := by
  unfold may
  rw [mayL_turn]
/-! ### The policy of numbers, with its bounds -/
def madeG : List S36 := [(⟨(⟨#[103]⟩ : ByteArray), (([(⟨#[117]⟩ : ByteArray), (⟨#[118]⟩ : ByteArray), (⟨#[117]⟩ : ByteArray)] : List ByteArray))⟩ : S36), (⟨(⟨#[104]⟩ : ByteArray), (([(⟨#[119]⟩ : ByteArray)] : List ByteArray))⟩ : S36)]
theorem inn_g (u : ByteArray) : inn madeG u (⟨#[103]⟩ : ByteArray) = (decide (u.toList = [117]) || decide (u.toList = [118])) := by
  unfold inn madeG has
  simp only [List.any_cons, List.any_nil]
  have e1 : (⟨#[103]⟩ : ByteArray).toList = [103] := B_toList [103]
  have e2 : (⟨#[104]⟩ : ByteArray).toList = [104] := B_toList [104]
  have e3 : (⟨#[117]⟩ : ByteArray).toList = [117] := B_toList [117]
  have e4 : (⟨#[118]⟩ : ByteArray).toList = [118] := B_toList [118]
  rw [e1, e2, e3, e4]
  rw [show decide ([117] = u.toList) = decide (u.toList = [117]) from decide_eq_decide.2 eq_comm, show decide ([118] = u.toList) = decide (u.toList = [118]) from decide_eq_decide.2 eq_comm]
  cases decide (u.toList = [117]) <;> cases decide (u.toList = [118]) <;> simp
theorem inn_h (u : ByteArray) : inn madeG u (⟨#[104]⟩ : ByteArray) = decide (u.toList = [119]) := by
  unfold inn madeG has
  simp only [List.any_cons, List.any_nil]
  have e1 : (⟨#[103]⟩ : ByteArray).toList = [103] := B_toList [103]
  have e2 : (⟨#[104]⟩ : ByteArray).toList = [104] := B_toList [104]
  have e3 : (⟨#[119]⟩ : ByteArray).toList = [119] := B_toList [119]
  rw [e1, e2, e3]
  rw [show decide ([119] = u.toList) = decide (u.toList = [119]) from decide_eq_decide.2 eq_comm]
  cases decide (u.toList = [119]) <;> simp
theorem inn_k (u : ByteArray) : inn madeG u (⟨#[107]⟩ : ByteArray) = false := by
  unfold inn madeG
  simp only [List.any_cons, List.any_nil]
  have e1 : (⟨#[103]⟩ : ByteArray).toList = [103] := B_toList [103]
  have e2 : (⟨#[104]⟩ : ByteArray).toList = [104] := B_toList [104]
  have e3 : (⟨#[107]⟩ : ByteArray).toList = [107] := B_toList [107]
  rw [e1, e2, e3]
  simp
theorem fitB_of {l : List ByteArray} (h : l.length ≤ 8) (hs : ∀ s ∈ l, s.size ≤ 8) : fitB l = true := by
  unfold fitB
  rw [Bool.and_eq_true, List.all_eq_true]
  exact ⟨decide_eq_true h, fun s h => decide_eq_true (hs s h)⟩
def FewS (x : S34) : Prop := fitB x.f2 = true ∧ fitB x.f3 = true ∧ fitB x.f4 = true ∧ fitB x.f5 = true
def FewB (x : S51) : Prop := fitB x.f1 = true ∧ fitB x.f2 = true
theorem gew_l0 (n : Int) (l : List ByteArray) (hl : fitB l = true) : ∀ (d i : Nat) (out : List ByteArray), l.length - i = d → i ≤ l.length → out.length ≤ i → (∀ s ∈ out, s.size ≤ 8) → ∃ r, Ev (fun k => entaillaw23_Made_1.l0 k n l out (i : Int)) r ∧ fitB r = true
  | 0, i, out, hd, hi, ho, hs => by
    have := (fit_of hl).2.1
    refine ⟨out, Ev.step (g := fun _ => some out) (fun k => ?_) (Ev.pure _), fitB_of (by omega) hs⟩
    unfold entaillaw23_Made_1.l0
    rw [if_neg (by omega)]
  | d + 1, i, out, hd, hi, ho, hs => by
    have h : i < l.length := by omega
    have hl8 := (fit_of hl).2
    by_cases hb : (Go.bits .and .i64 (shr .i64 n (IntKind.u64.wrap (i : Int))) 1) = 1
    · obtain ⟨r, hr, hf⟩ := gew_l0 n l hl d (i + 1) (out ++ [l[i]]) (by omega) (by omega) (by rw [List.length_append, List.length_singleton]; omega) (fun s hh => by
        rcases List.mem_append.1 hh with h1 | h1
        · exact hs s h1
        · rw [List.mem_singleton.1 h1]; exact hl8.2 _ (List.getElem_mem h))
      refine ⟨r, Ev.step (fun k => ?_) hr, hf⟩
      conv => lhs; unfold entaillaw23_Made_1.l0
      rw [if_pos (by omega), if_pos (u64_nonneg _), if_pos hb, if_pos (by omega), if_pos (by omega), rd_S l i h, nat_wrap1 (by omega)]
    · obtain ⟨r, hr, hf⟩ := gew_l0 n l hl d (i + 1) out (by omega) (by omega) (by omega) hs
      refine ⟨r, Ev.step (fun k => ?_) hr, hf⟩
      conv => lhs; unfold entaillaw23_Made_1.l0
      rw [if_pos (by omega), if_pos (u64_nonneg _), if_neg hb, nat_wrap1 (by omega)]
theorem gew_ev (n : Int) (l : List ByteArray) (hl : fitB l = true) : ∃ r, Ev (fun k => entaillaw23_Made_1.f k n l) r ∧ fitB r = true := gew_l0 n l hl l.length 0 [] (by omega) (by omega) (Nat.zero_le _) (fun s h => by cases h)
theorem nade_l0 (l : List Int) (p0 p1 p2 : List ByteArray) (p3 : List S36) : ∀ (d i : Nat) (st : List S34) (bo : List S51), 8 - i = d → i ≤ 8 → i ≤ l.length → st.length ≤ i → bo.length ≤ i → (∀ x ∈ st, FewS x) → (∀ x ∈ bo, FewB x) →
    ∃ st' bo', Ev (fun k => entaillaw23_Made.l0 k l (i : Int) p0 p1 p2 p3 st bo) (p0, p1, p2, p3, st', bo') ∧ st'.length ≤ 8 ∧ bo'.length ≤ 8 ∧ (∀ x ∈ st', FewS x) ∧ ∀ x ∈ bo', FewB x := by
  intro d
  induction d with
  | zero =>
    intro i st bo hd h8 hi hs hb fs fb
    refine ⟨st, bo, ?_, by omega, by omega, fs, fb⟩
    refine Ev.step (fun k => ?_) (made_end l i p0 p1 p2 p3 st bo)
    conv => lhs; unfold entaillaw23_Made.l0
    by_cases hlt : (i : Int) < (l.length : Int)
    · rw [if_pos hlt, decide_eq_false (by omega)]
    · rw [if_neg hlt]
  | succ d ih =>
    intro i st bo hd h8 hi hs hb fs fb
    by_cases hlt : i < l.length
    · have e : ∀ k, entaillaw23_Made.l0 (k + 1) l (i : Int) p0 p1 p2 p3 st bo = entaillaw23_Made.j1 k l (i : Int) true p0 p1 p2 p3 st bo := by
        intro k
        conv => lhs; unfold entaillaw23_Made.l0
        rw [if_pos (by omega), decide_eq_true (by omega)]
      obtain ⟨acts, ea, fa⟩ := gew_ev ((rd l (i : Int)) / 65536) ([(⟨#[42]⟩ : ByteArray), (⟨#[103, 101, 116, 42]⟩ : ByteArray), (⟨#[103, 101, 116]⟩ : ByteArray), (⟨#[112, 117, 116]⟩ : ByteArray), (⟨#[108, 42]⟩ : ByteArray), (⟨#[122, 42]⟩ : ByteArray)] : List ByteArray) (by decide)
      obtain ⟨ress, er, fr⟩ := gew_ev ((rd l (i : Int)) / 16777216) ([(⟨#[42]⟩ : ByteArray), (⟨#[97, 42]⟩ : ByteArray), (⟨#[98]⟩ : ByteArray), (⟨#[97, 98]⟩ : ByteArray), (⟨#[97]⟩ : ByteArray)] : List ByteArray) (by decide)
      obtain ⟨us, eu, fu⟩ := gew_ev ((rd l (i : Int)) / 4294967296) ([(⟨#[117]⟩ : ByteArray), (⟨#[118]⟩ : ByteArray), (⟨#[119]⟩ : ByteArray)] : List ByteArray) (by decide)
      obtain ⟨gs, eg, fg⟩ := gew_ev ((rd l (i : Int)) / 68719476736) ([(⟨#[103]⟩ : ByteArray), (⟨#[104]⟩ : ByteArray)] : List ByteArray) (by decide)
      have hm : 0 ≤ Int.tmod (Go.bits .and .i64 ((rd l (i : Int)) / 256) 255) 3 ∧ Int.tmod (Go.bits .and .i64 ((rd l (i : Int)) / 256) 255) 3 < 3 := and_mod ((rd l (i : Int)) / 256) 3 (by decide)
      have hn : 0 ≤ Go.bits .and .i64 ((rd l (i : Int)) / 1099511627776) 7 ∧ Go.bits .and .i64 ((rd l (i : Int)) / 1099511627776) 7 ≤ 7 := and_small ((rd l (i : Int)) / 1099511627776) 7 (by decide)
      by_cases hc : (Int.tmod (Go.bits .and .i64 (rd l (i : Int)) 255) 4) = 3
      · obtain ⟨st', bo', hR, hF⟩ := ih (i + 1) st (bo ++ [(⟨rdOf ByteArray.empty ([(⟨#[117]⟩ : ByteArray), (⟨#[118]⟩ : ByteArray), (⟨#[119]⟩ : ByteArray)] : List ByteArray) (Int.tmod (Go.bits .and .i64 ((rd l (i : Int)) / 256) 255) 3), acts, ress⟩ : S51)]) (by omega) (by omega) (by omega) (by omega) (by rw [List.length_append, List.length_singleton]; omega) fs (fun x hx => by
          rcases List.mem_append.1 hx with h | h
          · exact fb x h
          · rw [List.mem_singleton.1 h]; exact ⟨fa, fr⟩)
        have e1 : ∀ k, entaillaw23_Made.j1 (k + 1) l (i : Int) true p0 p1 p2 p3 st bo = (entaillaw23_Made_1.f k ((rd l (i : Int)) / 65536) ([(⟨#[42]⟩ : ByteArray), (⟨#[103, 101, 116, 42]⟩ : ByteArray), (⟨#[103, 101, 116]⟩ : ByteArray), (⟨#[112, 117, 116]⟩ : ByteArray), (⟨#[108, 42]⟩ : ByteArray), (⟨#[122, 42]⟩ : ByteArray)] : List ByteArray)).bind fun a => (entaillaw23_Made_1.f k ((rd l (i : Int)) / 16777216) ([(⟨#[42]⟩ : ByteArray), (⟨#[97, 42]⟩ : ByteArray), (⟨#[98]⟩ : ByteArray), (⟨#[97, 98]⟩ : ByteArray), (⟨#[97]⟩ : ByteArray)] : List ByteArray)).bind fun b => entaillaw23_Made.l0 k l ((i + 1 : Nat) : Int) p0 p1 p2 p3 st (bo ++ [(⟨rdOf ByteArray.empty ([(⟨#[117]⟩ : ByteArray), (⟨#[118]⟩ : ByteArray), (⟨#[119]⟩ : ByteArray)] : List ByteArray) (Int.tmod (Go.bits .and .i64 ((rd l (i : Int)) / 256) 255) 3), a, b⟩ : S51)]) := by
          intro k
          conv => lhs; unfold entaillaw23_Made.j1
          rw [if_pos rfl, if_pos (by omega), if_pos (by omega)]
          refine congrArg _ (funext fun a => congrArg _ (funext fun b => ?_))
          rw [if_pos hc, Option.bind_some, if_pos hm.1, if_pos (by have := hm.2; simp only [List.length_cons, List.length_nil]; omega), if_pos (by omega), nat_wrap1 (by omega)]
        exact ⟨st', bo', Ev.step e (Ev.step e1 (Ev.bind ea (Ev.bind er hR))), hF⟩
      · obtain ⟨st', bo', hR, hF⟩ := ih (i + 1) (st ++ [(⟨rdOf ByteArray.empty ([(⟨#[115, 48]⟩ : ByteArray), (⟨#[115, 49]⟩ : ByteArray), (⟨#[115, 50]⟩ : ByteArray), (⟨#[115, 51]⟩ : ByteArray), (⟨#[115, 52]⟩ : ByteArray), (⟨#[115, 53]⟩ : ByteArray), (⟨#[115, 54]⟩ : ByteArray), (⟨#[115, 55]⟩ : ByteArray)] : List ByteArray) (Go.bits .and .i64 ((rd l (i : Int)) / 1099511627776) 7), ((Int.tmod (Go.bits .and .i64 (rd l (i : Int)) 255) 4) == 2), us, gs, acts, ress⟩ : S34)]) bo (by omega) (by omega) (by omega) (by rw [List.length_append, List.length_singleton]; omega) (by omega) (fun x hx => by
          rcases List.mem_append.1 hx with h | h
          · exact fs x h
          · rw [List.mem_singleton.1 h]; exact ⟨fu, fg, fa, fr⟩) fb
        have e1 : ∀ k, entaillaw23_Made.j1 (k + 1) l (i : Int) true p0 p1 p2 p3 st bo = (entaillaw23_Made_1.f k ((rd l (i : Int)) / 65536) ([(⟨#[42]⟩ : ByteArray), (⟨#[103, 101, 116, 42]⟩ : ByteArray), (⟨#[103, 101, 116]⟩ : ByteArray), (⟨#[112, 117, 116]⟩ : ByteArray), (⟨#[108, 42]⟩ : ByteArray), (⟨#[122, 42]⟩ : ByteArray)] : List ByteArray)).bind fun a => (entaillaw23_Made_1.f k ((rd l (i : Int)) / 16777216) ([(⟨#[42]⟩ : ByteArray), (⟨#[97, 42]⟩ : ByteArray), (⟨#[98]⟩ : ByteArray), (⟨#[97, 98]⟩ : ByteArray), (⟨#[97]⟩ : ByteArray)] : List ByteArray)).bind fun b => (entaillaw23_Made_1.f k ((rd l (i : Int)) / 4294967296) ([(⟨#[117]⟩ : ByteArray), (⟨#[118]⟩ : ByteArray), (⟨#[119]⟩ : ByteArray)] : List ByteArray)).bind fun u => (entaillaw23_Made_1.f k ((rd l (i : Int)) / 68719476736) ([(⟨#[103]⟩ : ByteArray), (⟨#[104]⟩ : ByteArray)] : List ByteArray)).bind fun g => entaillaw23_Made.l0 k l ((i + 1 : Nat) : Int) p0 p1 p2 p3 (st ++ [(⟨rdOf ByteArray.empty ([(⟨#[115, 48]⟩ : ByteArray), (⟨#[115, 49]⟩ : ByteArray), (⟨#[115, 50]⟩ : ByteArray), (⟨#[115, 51]⟩ : ByteArray), (⟨#[115, 52]⟩ : ByteArray), (⟨#[115, 53]⟩ : ByteArray), (⟨#[115, 54]⟩ : ByteArray), (⟨#[115, 55]⟩ : ByteArray)] : List ByteArray) (Go.bits .and .i64 ((rd l (i : Int)) / 1099511627776) 7), ((Int.tmod (Go.bits .and .i64 (rd l (i : Int)) 255) 4) == 2), u, g, a, b⟩ : S34)]) bo := by
          intro k
          conv => lhs; unfold entaillaw23_Made.j1
          rw [if_pos rfl, if_pos (by omega), if_pos (by omega)]
          refine congrArg _ (funext fun a => congrArg _ (funext fun b => ?_))
          rw [if_neg hc, Option.bind_some, if_pos hn.1, if_pos (by have := hn.2; simp only [List.length_cons, List.length_nil]; omega)]
          refine congrArg _ (funext fun u => congrArg _ (funext fun g => ?_))
          rw [if_pos (by omega), nat_wrap1 (by omega)]
        exact ⟨st', bo', Ev.step e (Ev.step e1 (Ev.bind ea (Ev.bind er (Ev.bind eu (Ev.bind eg hR))))), hF⟩
    · refine ⟨st, bo, ?_, by omega, by omega, fs, fb⟩
      refine Ev.step (fun k => ?_) (made_end l i p0 p1 p2 p3 st bo)
      conv => lhs; unfold entaillaw23_Made.l0
      rw [if_neg (by omega)]
def madeU : List ByteArray := [(⟨#[117]⟩ : ByteArray), (⟨#[118]⟩ : ByteArray), (⟨#[119]⟩ : ByteArray), (⟨#[117]⟩ : ByteArray)]
def madeA : List ByteArray := [(⟨#[103, 101, 116]⟩ : ByteArray), (⟨#[103, 101, 116, 97, 108, 108]⟩ : ByteArray), (⟨#[112, 117, 116]⟩ : ByteArray), (⟨#[108, 105, 115, 116]⟩ : ByteArray)]
def madeR : List ByteArray := [(⟨#[97]⟩ : ByteArray), (⟨#[97, 98]⟩ : ByteArray), (⟨#[98]⟩ : ByteArray)]
theorem nade_ev (l : List Int) : ∃ st bo, Ev (fun k => entaillaw23_Made.f k l) (madeU, madeA, madeR, madeG, st, bo) ∧ st.length ≤ 8 ∧ bo.length ≤ 8 ∧ (∀ x ∈ st, FewS x) ∧ ∀ x ∈ bo, FewB x :=
  nade_l0 l madeU madeA madeR madeG 8 0 [] [] rfl (by omega) (Nat.zero_le _) (Nat.zero_le _) (Nat.zero_le _) (fun x h => by cases h) (fun x h => by cases h)
theorem fit_few {l : List ByteArray} (h : fitB l = true) : Fit l := (fit_of h).1
theorem fit_users (n : ByteArray) : Fit (usersOf madeG n) ∧ (usersOf madeG n).length ≤ 4 := by
  have h : ∀ s ∈ usersOf madeG n, s.size < 4611686018427387904 := by
    intro s hs
    unfold usersOf at hs
    obtain ⟨x, hx, hx2⟩ := List.mem_flatMap.1 hs
    have hx3 := (List.mem_filter.1 hx).1
    unfold madeG at hx3
    simp only [List.mem_cons, List.not_mem_nil, or_false] at hx3
    rcases hx3 with rfl | rfl
    · simp only [List.mem_cons, List.not_mem_nil, or_false] at hx2
      rcases hx2 with rfl | rfl | rfl <;> decide
    · simp only [List.mem_cons, List.not_mem_nil, or_false] at hx2
      subst hx2
      decide
  have hl : (usersOf madeG n).length ≤ 4 := by
    unfold usersOf madeG
    simp only [List.filter_cons, List.filter_nil]
    split <;> split <;> simp
  exact ⟨⟨by omega, h⟩, hl⟩
theorem fit_turn (x : S34) (h : FewS x) : FitS (turn madeG x) := by
  have h2 := fit_of h.1
  have h3 := fit_of h.2.1
  refine ⟨⟨?_, ?_⟩, ⟨by show 0 < _; decide, fun s hs => by cases hs⟩, fit_few h.2.2.1, fit_few h.2.2.2⟩
  · show (x.f2 ++ x.f3.flatMap (usersOf madeG)).length < _
    have : ∀ l : List ByteArray, (l.flatMap (usersOf madeG)).length ≤ 4 * l.length := by
      intro l
      induction l with
      | nil => simp
      | cons a l ih => rw [List.flatMap_cons, List.length_append, List.length_cons]; have := (fit_users a).2; omega
    have := this x.f3
    rw [List.length_append]
    omega
  · intro s hs
    rcases List.mem_append.1 hs with hs | hs
    · exact h2.1.2 s hs
    · obtain ⟨n, _, hn⟩ := List.mem_flatMap.1 hs
      exact (fit_users n).1.2 s hn
theorem fit_madeG : ∀ x ∈ madeG, FitG x := by
  intro x hx
  unfold madeG at hx
  simp only [List.mem_cons, List.not_mem_nil, or_false] at hx
  rcases hx with rfl | rfl
  · exact fit_few (by decide)
  · exact fit_few (by decide)
theorem fitP_of (st : List S34) (bo : List S51) (hs : st.length ≤ 8) (hb : bo.length ≤ 8) (fs : ∀ x ∈ st, FitS x) (fb : ∀ x ∈ bo, FewB x) : FitP madeU madeA madeR madeG st bo :=
  ⟨fit_few (by decide), fit_few (by decide), fit_few (by decide), ⟨by decide, fit_madeG⟩, ⟨by omega, fs⟩, ⟨by omega, fun x hx => ⟨fit_few (fb x hx).1, fit_few (fb x hx).2⟩⟩⟩
theorem eq117 (u : ByteArray) (l : List UInt8) : decide (u.toList = l) = (u.toList == l) := by
  by_cases h : u.toList = l
  · rw [decide_eq_true h, beq_iff_eq.2 h]
  · rw [decide_eq_false h, beq_eq_false_iff_ne.2 h]
theorem GlobGroups_walk' (A0 : Option Addr) (c0 : Nat) (l0 : List Int) (n : Int) (w : World) (hr0 : Kd.C (Kd.int .i64) w A0 l0.length l0) (hc0 : l0.length ≤ c0) :
    Calls Try.prog 3 #[.slice A0 l0.length c0, .int .i64 n] w fun e w' => e = .returned (.bool true) ∧ Below w.heap.size w w' := by
  obtain ⟨st, bo, hM, h8, hb8, fs, fb⟩ := nade_ev l0
  obtain ⟨u, a, o, hA, hu, ha, ho⟩ := ask_f n
  have P1 := may_ev madeU madeA madeR madeG st bo u a o (fitP_of st bo h8 hb8 (fun x hx => ⟨fit_few (fs x hx).1, fit_few (fs x hx).2.1, fit_few (fs x hx).2.2.1, fit_few (fs x hx).2.2.2⟩) fb) (by omega) (by omega)
  have P2 := may_ev madeU madeA madeR madeG (st.map (turn madeG)) bo u a o (fitP_of _ bo (by rw [List.length_map]; exact h8) hb8 (fun x hx => by
    obtain ⟨y, hy, rfl⟩ := List.mem_map.1 hx
    exact fit_turn y (fs y hy)) fb) (by omega) (by omega)
  rw [may_turn] at P2
  have P3 := gin_ev madeU madeA madeR madeG st bo u (⟨#[103]⟩ : ByteArray) fit_madeG
  have P4 := gin_ev madeU madeA madeR madeG st bo u (⟨#[104]⟩ : ByteArray) fit_madeG
  have P5 := gin_ev madeU madeA madeR madeG st bo u (⟨#[107]⟩ : ByteArray) fit_madeG
  rw [inn_g, eq117, eq117] at P3
  rw [inn_h, eq117] at P4
  rw [inn_k] at P5
  obtain ⟨k0, q0⟩ := hM
  obtain ⟨k1, q1⟩ := P1
  obtain ⟨k2, q2⟩ := P2
  obtain ⟨k3, q3⟩ := P3
  obtain ⟨k4, q4⟩ := P4
  obtain ⟨k5, q5⟩ := P5
  obtain ⟨k6, q6⟩ := awake_ev
  exact GlobGroups_walk (k0 + k1 + k2 + k3 + k4 + k5 + k6) A0 c0 l0 n madeU madeA madeR madeG st bo false u a o w hr0 hc0 h8 (fun s hs => ⟨(fit_of (fs s hs).1).2.1, (fit_of (fs s hs).2.1).2.1⟩) ⟨by decide, fun x hx => by
    unfold madeG at hx
    simp only [List.mem_cons, List.not_mem_nil, or_false] at hx
    rcases hx with rfl | rfl <;> decide⟩ (q0 _ (by omega)) hA _ (q1 _ (by omega)) (q2 _ (by omega)) (q3 _ (by omega)) (q4 _ (by omega)) (q5 _ (by omega)) (q6 _ (by omega))
end Go.Proofs.Ytppndhbeglcioaa.Pl
