-- Written by gprint.py, a program of this session's: the kit's printer over contracts that were proved by hand. Lean checks it.
import Derived.Test.YtamgobcahgcejaaDoorGCx0
namespace Go.Proofs.YtamgobcahgcejaaDoor.GC
open Go.RowKit Go.Proofs.YtamgobcahgcejaaDoorW.PrintWords Go.Proofs.YtamgobcahgcejaaDoorW.PrintLast Go.Proofs.YtamgobcahgcejaaDoorW.PrintMore
attribute [local go_sem] max2_int min2_int max_two min_two max_three min_three max_four min_four   -- for this text's walks alone
set_option linter.unusedVariables false
set_option linter.unusedSimpArgs false

/-! ### strings_Join: function 20 -/
/-- strings.Join, where the whole is no longer than a block may be. -/
def strings_Join.f (l0 : List ByteArray) (a1 : ByteArray) : Option ByteArray :=
  if l0.length ≤ 140737488355328 then (if (Lib.join (l0.map (·.data.toList)) a1.data.toList).length ≤ 140737488355328 then some ⟨(Lib.join (l0.map (·.data.toList)) a1.data.toList).toArray⟩ else none) else none
theorem row_of_strings {w : World} {A : Option Addr} {xs : List ByteArray} (h : Kd.C Kd.string w A xs.length xs) (h0 : 0 < xs.length) :
    ∃ b o, A = some ⟨b, o, none⟩ ∧ b < w.heap.size ∧ ∀ (j : Nat) x, xs[j]? = some x → w.cell? ⟨b, o + j, none⟩ = some (.string x) := by
  have hc := h.2.2
  obtain ⟨ad, rfl, hc'⟩ := hc h0
  obtain ⟨b, o, sp⟩ := ad
  have g : ∀ (j : Nat) x, xs[j]? = some x → w.cell? (Addr.add ⟨b, o, sp⟩ j) = some (.string x) := by
    intro j x hj
    obtain ⟨c, _, hK, hcell⟩ := hc' j x hj
    have hK' : c = [Value.string x] := hK
    subst hK'
    have := hcell 0 _ rfl
    simpa [Kd.string, Kd.scalar] using this
  have g0 := g 0 _ (List.getElem?_eq_getElem h0)
  have hsp : sp = none := by
    cases sp with
    | none => rfl
    | some s => simp [Addr.add, World.cell?] at g0; split at g0 <;> simp at g0
  subst hsp
  refine ⟨b, o, rfl, ?_, ?_⟩
  · exact World.block_lt_of_cell? w _ g0
  · intro j x hj
    have := g j x hj
    rcases Nat.eq_zero_or_pos j with rfl | hp
    · simpa [Addr.add] using this
    · simpa [Addr.add, Nat.pos_iff_ne_zero.1 hp] using this
theorem strings_Join.calls (A0 : Option Addr) (c0 : Nat) (l0 : List ByteArray) (a1 : ByteArray) (r : ByteArray) (w : World) (hr0 : Kd.C Kd.string w A0 l0.length l0) (hc0 : l0.length ≤ c0) (h : strings_Join.f l0 a1 = some r) :
    Calls Tryd.prog 20 #[.slice A0 l0.length c0, .string a1] w fun e w' => e = .returned (.string r) ∧ Below w.heap.size w w' := by
  unfold strings_Join.f at h
  split at h
  · split at h
    · rename_i h1 h2
      obtain rfl := Option.some.inj h
      rcases Nat.eq_zero_or_pos l0.length with h0 | h0
      · obtain rfl : l0 = [] := List.eq_nil_of_length_eq_zero h0
        refine (Tryd.strings_Join_none A0 c0 a1 w).mono ?_
        rintro e w' ⟨rfl, rfl⟩
        exact ⟨rfl, Below.refl _ _⟩
      · obtain ⟨b, o, rfl, hb, hcell⟩ := row_of_strings hr0 h0
        exact Tryd.strings_Join b o c0 l0 a1 w hcell hb h1 hc0 h2
    · cases h
  · cases h

end Go.Proofs.YtamgobcahgcejaaDoor.GC
