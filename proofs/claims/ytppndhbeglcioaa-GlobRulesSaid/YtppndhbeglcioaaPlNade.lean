/- The policy of numbers, with its bounds: of few statements, few boundaries; no program in sight. -/
import Derived.Test.YtppndhbeglcioaaPlMay
namespace Go.Proofs.Ytppndhbeglcioaa.Pl
open Go.RowKit Go.Proofs.YtppndhbeglcioaaUniq Go.Proofs.Ytppndhbeglcioaa.GA Go.Proofs.YtppndhbeglcioaaW.PrintWords Go.Proofs.YtppndhbeglcioaaW.PrintLast Go.Proofs.YtppndhbeglcioaaW.PrintMore
set_option linter.unusedVariables false
set_option linter.unusedSimpArgs false
/-! ### The policy of numbers, with its bounds -/
def madeG : List S36 := [(⟨(⟨#[103]⟩ : ByteArray), (([(⟨#[117]⟩ : ByteArray), (⟨#[118]⟩ : ByteArray), (⟨#[117]⟩ : ByteArray)] : List ByteArray))⟩ : S36), (⟨(⟨#[104]⟩ : ByteArray), (([(⟨#[119]⟩ : ByteArray)] : List ByteArray))⟩ : S36)]
theorem fitB_of {l : List ByteArray} (h : l.length ≤ 8) (hs : ∀ s ∈ l, s.size ≤ 8) : fitB l = true := by
  unfold fitB
  rw [Bool.and_eq_true, List.all_eq_true]
  exact ⟨decide_eq_true h, fun s h => decide_eq_true (hs s h)⟩
def FewS (x : S34) : Prop := fitB x.f2 = true ∧ fitB x.f3 = true ∧ fitB x.f4 = true ∧ fitB x.f5 = true
def FewB (x : S51) : Prop := fitB x.f1 = true ∧ fitB x.f2 = true
theorem gew_l0 (n : Int) (l : List ByteArray) (hl : fitB l = true) : ∀ (d i : Nat) (out : List ByteArray), l.length - i = d → i ≤ l.length → out.length ≤ i → (∀ s ∈ out, s.size ≤ 8) → ∃ r, Ev (fun k => entaillaw23_Made_1.l0 k n l out (i : Int)) r ∧ fitB r = true
  | 0, i, out, hd, hi, ho, hs => by
    have := (fit_of hl).2.1
    refine ⟨out, Ev.step (g := fun _ => some out) (fun k => ?_) (Ev.pure _), fitB_of (by omega) hs⟩
    unfold entaillaw23_Made_1.l0
    rw [if_neg (by omega)]
  | d + 1, i, out, hd, hi, ho, hs => by
    have h : i < l.length := by omega
    have hl8 := (fit_of hl).2
    by_cases hb : (Go.bits .and .i64 (shr .i64 n (IntKind.u64.wrap (i : Int))) 1) = 1
    · obtain ⟨r, hr, hf⟩ := gew_l0 n l hl d (i + 1) (out ++ [l[i]]) (by omega) (by omega) (by rw [List.length_append, List.length_singleton]; omega) (fun s hh => by
        rcases List.mem_append.1 hh with h1 | h1
        · exact hs s h1
        · rw [List.mem_singleton.1 h1]; exact hl8.2 _ (List.getElem_mem h))
      refine ⟨r, Ev.step (fun k => ?_) hr, hf⟩
      conv => lhs; unfold entaillaw23_Made_1.l0
      rw [if_pos (by omega), if_pos (u64_nonneg _), if_pos hb, if_pos (by omega), if_pos (by omega), rd_S l i h, nat_wrap1 (by omega)]
    · obtain ⟨r, hr, hf⟩ := gew_l0 n l hl d (i + 1) out (by omega) (by omega) (by omega) hs
      refine ⟨r, Ev.step (fun k => ?_) hr, hf⟩
      conv => lhs; unfold entaillaw23_Made_1.l0
      rw [if_pos (by omega), if_pos (u64_nonneg _), if_neg hb, nat_wrap1 (by omega)]
theorem gew_ev (n : Int) (l : List ByteArray) (hl : fitB l = true) : ∃ r, Ev (fun k => entaillaw23_Made_1.f k n l) r ∧ fitB r = true := gew_l0 n l hl l.length 0 [] (by omega) (by omega) (Nat.zero_le _) (fun s h => by cases h)
theorem nade_l0 (l : List Int) (p0 p1 p2 : List ByteArray) (p3 : List S36) : ∀ (d i : Nat) (st : List S34) (bo : List S51), 8 - i = d → i ≤ 8 → i ≤ l.length → st.length ≤ i → bo.length ≤ i → (∀ x ∈ st, FewS x) → (∀ x ∈ bo, FewB x) →
    ∃ st' bo', Ev (fun k => entaillaw23_Made.l0 k l (i : Int) p0 p1 p2 p3 st bo) (p0, p1, p2, p3, st', bo') ∧ st'.length ≤ 8 ∧ bo'.length ≤ 8 ∧ (∀ x ∈ st', FewS x) ∧ ∀ x ∈ bo', FewB x := by
  intro d
  induction d with
  | zero =>
    intro i st bo hd h8 hi hs hb fs fb
    refine ⟨st, bo, ?_, by omega, by omega, fs, fb⟩
    refine Ev.step (fun k => ?_) (made_end l i p0 p1 p2 p3 st bo)
    conv => lhs; unfold entaillaw23_Made.l0
    by_cases hlt : (i : Int) < (l.length : Int)
    · rw [if_pos hlt, decide_eq_false (by omega)]
    · rw [if_neg hlt]
  | succ d ih =>
    intro i st bo hd h8 hi hs hb fs fb
    by_cases hlt : i < l.length
    · have e : ∀ k, entaillaw23_Made.l0 (k + 1) l (i : Int) p0 p1 p2 p3 st bo = entaillaw23_Made.j1 k l (i : Int) true p0 p1 p2 p3 st bo := by
        intro k
        conv => lhs; unfold entaillaw23_Made.l0
        rw [if_pos (by omega), decide_eq_true (by omega)]
      obtain ⟨acts, ea, fa⟩ := gew_ev ((rd l (i : Int)) / 65536) ([(⟨#[42]⟩ : ByteArray), (⟨#[103, 101, 116, 42]⟩ : ByteArray), (⟨#[103, 101, 116]⟩ : ByteArray), (⟨#[112, 117, 116]⟩ : ByteArray), (⟨#[108, 42]⟩ : ByteArray), (⟨#[122, 42]⟩ : ByteArray)] : List ByteArray) (by decide)
      obtain ⟨ress, er, fr⟩ := gew_ev ((rd l (i : Int)) / 16777216) ([(⟨#[42]⟩ : ByteArray), (⟨#[97, 42]⟩ : ByteArray), (⟨#[98]⟩ : ByteArray), (⟨#[97, 98]⟩ : ByteArray), (⟨#[97]⟩ : ByteArray)] : List ByteArray) (by decide)
      obtain ⟨us, eu, fu⟩ := gew_ev ((rd l (i : Int)) / 4294967296) ([(⟨#[117]⟩ : ByteArray), (⟨#[118]⟩ : ByteArray), (⟨#[119]⟩ : ByteArray)] : List ByteArray) (by decide)
      obtain ⟨gs, eg, fg⟩ := gew_ev ((rd l (i : Int)) / 68719476736) ([(⟨#[103]⟩ : ByteArray), (⟨#[104]⟩ : ByteArray)] : List ByteArray) (by decide)
      have hm : 0 ≤ Int.tmod (Go.bits .and .i64 ((rd l (i : Int)) / 256) 255) 3 ∧ Int.tmod (Go.bits .and .i64 ((rd l (i : Int)) / 256) 255) 3 < 3 := and_mod ((rd l (i : Int)) / 256) 3 (by decide)
      have hn : 0 ≤ Go.bits .and .i64 ((rd l (i : Int)) / 1099511627776) 7 ∧ Go.bits .and .i64 ((rd l (i : Int)) / 1099511627776) 7 ≤ 7 := and_small ((rd l (i : Int)) / 1099511627776) 7 (by decide)
      by_cases hc : (Int.tmod (Go.bits .and .i64 (rd l (i : Int)) 255) 4) = 3
      · obtain ⟨st', bo', hR, hF⟩ := ih (i + 1) st (bo ++ [(⟨rdOf ByteArray.empty ([(⟨#[117]⟩ : ByteArray), (⟨#[118]⟩ : ByteArray), (⟨#[119]⟩ : ByteArray)] : List ByteArray) (Int.tmod (Go.bits .and .i64 ((rd l (i : Int)) / 256) 255) 3), acts, ress⟩ : S51)]) (by omega) (by omega) (by omega) (by omega) (by rw [List.length_append, List.length_singleton]; omega) fs (fun x hx => by
          rcases List.mem_append.1 hx with h | h
          · exact fb x h
          · rw [List.mem_singleton.1 h]; exact ⟨fa, fr⟩)
        have e1 : ∀ k, entaillaw23_Made.j1 (k + 1) l (i : Int) true p0 p1 p2 p3 st bo = (entaillaw23_Made_1.f k ((rd l (i : Int)) / 65536) ([(⟨#[42]⟩ : ByteArray), (⟨#[103, 101, 116, 42]⟩ : ByteArray), (⟨#[103, 101, 116]⟩ : ByteArray), (⟨#[112, 117, 116]⟩ : ByteArray), (⟨#[108, 42]⟩ : ByteArray), (⟨#[122, 42]⟩ : ByteArray)] : List ByteArray)).bind fun a => (entaillaw23_Made_1.f k ((rd l (i : Int)) / 16777216) ([(⟨#[42]⟩ : ByteArray), (⟨#[97, 42]⟩ : ByteArray), (⟨#[98]⟩ : ByteArray), (⟨#[97, 98]⟩ : ByteArray), (⟨#[97]⟩ : ByteArray)] : List ByteArray)).bind fun b => entaillaw23_Made.l0 k l ((i + 1 : Nat) : Int) p0 p1 p2 p3 st (bo ++ [(⟨rdOf ByteArray.empty ([(⟨#[117]⟩ : ByteArray), (⟨#[118]⟩ : ByteArray), (⟨#[119]⟩ : ByteArray)] : List ByteArray) (Int.tmod (Go.bits .and .i64 ((rd l (i : Int)) / 256) 255) 3), a, b⟩ : S51)]) := by
          intro k
          conv => lhs; unfold entaillaw23_Made.j1
          rw [if_pos rfl, if_pos (by omega), if_pos (by omega)]
          refine congrArg _ (funext fun a => congrArg _ (funext fun b => ?_))
          rw [if_pos hc, Option.bind_some, if_pos hm.1, if_pos (by have := hm.2; simp only [List.length_cons, List.length_nil]; omega), if_pos (by omega), nat_wrap1 (by omega)]
        exact ⟨st', bo', Ev.step e (Ev.step e1 (Ev.bind ea (Ev.bind er hR))), hF⟩
      · obtain ⟨st', bo', hR, hF⟩ := ih (i + 1) (st ++ [(⟨rdOf ByteArray.empty ([(⟨#[115, 48]⟩ : ByteArray), (⟨#[115, 49]⟩ : ByteArray), (⟨#[115, 50]⟩ : ByteArray), (⟨#[115, 51]⟩ : ByteArray), (⟨#[115, 52]⟩ : ByteArray), (⟨#[115, 53]⟩ : ByteArray), (⟨#[115, 54]⟩ : ByteArray), (⟨#[115, 55]⟩ : ByteArray)] : List ByteArray) (Go.bits .and .i64 ((rd l (i : Int)) / 1099511627776) 7), ((Int.tmod (Go.bits .and .i64 (rd l (i : Int)) 255) 4) == 2), us, gs, acts, ress⟩ : S34)]) bo (by omega) (by omega) (by omega) (by rw [List.length_append, List.length_singleton]; omega) (by omega) (fun x hx => by
          rcases List.mem_append.1 hx with h | h
          · exact fs x h
          · rw [List.mem_singleton.1 h]; exact ⟨fu, fg, fa, fr⟩) fb
        have e1 : ∀ k, entaillaw23_Made.j1 (k + 1) l (i : Int) true p0 p1 p2 p3 st bo = (entaillaw23_Made_1.f k ((rd l (i : Int)) / 65536) ([(⟨#[42]⟩ : ByteArray), (⟨#[103, 101, 116, 42]⟩ : ByteArray), (⟨#[103, 101, 116]⟩ : ByteArray), (⟨#[112, 117, 116]⟩ : ByteArray), (⟨#[108, 42]⟩ : ByteArray), (⟨#[122, 42]⟩ : ByteArray)] : List ByteArray)).bind fun a => (entaillaw23_Made_1.f k ((rd l (i : Int)) / 16777216) ([(⟨#[42]⟩ : ByteArray), (⟨#[97, 42]⟩ : ByteArray), (⟨#[98]⟩ : ByteArray), (⟨#[97, 98]⟩ : ByteArray), (⟨#[97]⟩ : ByteArray)] : List ByteArray)).bind fun b => (entaillaw23_Made_1.f k ((rd l (i : Int)) / 4294967296) ([(⟨#[117]⟩ : ByteArray), (⟨#[118]⟩ : ByteArray), (⟨#[119]⟩ : ByteArray)] : List ByteArray)).bind fun u => (entaillaw23_Made_1.f k ((rd l (i : Int)) / 68719476736) ([(⟨#[103]⟩ : ByteArray), (⟨#[104]⟩ : ByteArray)] : List ByteArray)).bind fun g => entaillaw23_Made.l0 k l ((i + 1 : Nat) : Int) p0 p1 p2 p3 (st ++ [(⟨rdOf ByteArray.empty ([(⟨#[115, 48]⟩ : ByteArray), (⟨#[115, 49]⟩ : ByteArray), (⟨#[115, 50]⟩ : ByteArray), (⟨#[115, 51]⟩ : ByteArray), (⟨#[115, 52]⟩ : ByteArray), (⟨#[115, 53]⟩ : ByteArray), (⟨#[115, 54]⟩ : ByteArray), (⟨#[115, 55]⟩ : ByteArray)] : List ByteArray) (Go.bits .and .i64 ((rd l (i : Int)) / 1099511627776) 7), ((Int.tmod (Go.bits .and .i64 (rd l (i : Int)) 255) 4) == 2), u, g, a, b⟩ : S34)]) bo := by
          intro k
          conv => lhs; unfold entaillaw23_Made.j1
          rw [if_pos rfl, if_pos (by omega), if_pos (by omega)]
          refine congrArg _ (funext fun a => congrArg _ (funext fun b => ?_))
          rw [if_neg hc, Option.bind_some, if_pos hn.1, if_pos (by have := hn.2; simp only [List.length_cons, List.length_nil]; omega)]
          refine congrArg _ (funext fun u => congrArg _ (funext fun g => ?_))
          rw [if_pos (by omega), nat_wrap1 (by omega)]
        exact ⟨st', bo', Ev.step e (Ev.step e1 (Ev.bind ea (Ev.bind er (Ev.bind eu (Ev.bind eg hR))))), hF⟩
    · refine ⟨st, bo, ?_, by omega, by omega, fs, fb⟩
      refine Ev.step (fun k => ?_) (made_end l i p0 p1 p2 p3 st bo)
      conv => lhs; unfold entaillaw23_Made.l0
      rw [if_neg (by omega)]
def madeU : List ByteArray := [(⟨#[117]⟩ : ByteArray), (⟨#[118]⟩ : ByteArray), (⟨#[119]⟩ : ByteArray), (⟨#[117]⟩ : ByteArray)]
def madeA : List ByteArray := [(⟨#[103, 101, 116]⟩ : ByteArray), (⟨#[103, 101, 116, 97, 108, 108]⟩ : ByteArray), (⟨#[112, 117, 116]⟩ : ByteArray), (⟨#[108, 105, 115, 116]⟩ : ByteArray)]
def madeR : List ByteArray := [(⟨#[97]⟩ : ByteArray), (⟨#[97, 98]⟩ : ByteArray), (⟨#[98]⟩ : ByteArray)]
theorem nade_ev (l : List Int) : ∃ st bo, Ev (fun k => entaillaw23_Made.f k l) (madeU, madeA, madeR, madeG, st, bo) ∧ st.length ≤ 8 ∧ bo.length ≤ 8 ∧ (∀ x ∈ st, FewS x) ∧ ∀ x ∈ bo, FewB x :=
  nade_l0 l madeU madeA madeR madeG 8 0 [] [] rfl (by omega) (Nat.zero_le _) (Nat.zero_le _) (Nat.zero_le _) (fun x h => by cases h) (fun x h => by cases h)
theorem fit_few {l : List ByteArray} (h : fitB l = true) : Fit l := (fit_of h).1
theorem fit_madeG : ∀ x ∈ madeG, FitG x := by
  intro x hx
  unfold madeG at hx
  simp only [List.mem_cons, List.not_mem_nil, or_false] at hx
  rcases hx with rfl | rfl
  · exact fit_few (by decide)
  · exact fit_few (by decide)
theorem fitP_of (st : List S34) (bo : List S51) (hs : st.length ≤ 8) (hb : bo.length ≤ 8) (fs : ∀ x ∈ st, FitS x) (fb : ∀ x ∈ bo, FewB x) : FitP madeU madeA madeR madeG st bo :=
  ⟨fit_few (by decide), fit_few (by decide), fit_few (by decide), ⟨by decide, fit_madeG⟩, ⟨by omega, fs⟩, ⟨by omega, fun x hx => ⟨fit_few (fb x hx).1, fit_few (fb x hx).2⟩⟩⟩
theorem eq117 (u : ByteArray) (l : List UInt8) : decide (u.toList = l) = (u.toList == l) := by
  by_cases h : u.toList = l
  · rw [decide_eq_true h, beq_iff_eq.2 h]
  · rw [decide_eq_false h, beq_eq_false_iff_ne.2 h]
end Go.Proofs.Ytppndhbeglcioaa.Pl
