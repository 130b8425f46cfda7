/- AN ARGUMENT READ AS DATA, IN THE PRINTER'S WORDS: what 'DataW.trod' reads of a type, the printer's kind 'Kd' of that type tells too. 'Opens d t Q': whatever is read at type t is told by d, and Q holds of it. Own work of this session's; of no program. -/
import Derived.Test.YtppndhbeglcioaaWWords
import Derived.Deep.Slices
namespace Go.Proofs.YtppndhbeglcioaaOpen
open Go Go.RowKit Go.Deep Go.ChangeShapes Go.WideShapes Go.Proofs.YtppndhbeglcioaaW.PrintWords
set_option linter.unusedVariables false

def Opens {α : Type} (P : Program) (d : Kd α) (t : TypeId) (Q : α → Prop) : Prop :=
  ∀ (H : Type) (enc : TypeId × Value → H) (w : World) (base : Nat) (spare : Nat → Bool) (held : Bool) (fuel : Nat) (cs : List Value) (x : DataW H × List MemPlace),
    DataW.trod enc P w base spare held fuel t cs = some x → ∃ y, d.K w y cs ∧ Q y
variable {P : Program}
theorem Opens.imp {α : Type} {d : Kd α} {t : TypeId} {Q Q' : α → Prop} (h : Opens P d t Q) (hq : ∀ y, Q y → Q' y) : Opens P d t Q' := fun H enc w base spare held fuel cs x hx => by
  obtain ⟨y, hk, h1⟩ := h H enc w base spare held fuel cs x hx
  exact ⟨y, hk, hq y h1⟩
theorem opens_int {t : TypeId} {k : IntKind} (ht : P.underlying t = some (.int k)) : Opens P (Kd.int k) t (fun n => (Lit.int k n).wf = true) := fun H enc w base spare held fuel cs x hx => by
  obtain ⟨n, rfl, _, hw⟩ := DataW.trod_int ht hx
  exact ⟨n, rfl, hw⟩
theorem opens_bool {t : TypeId} (ht : P.underlying t = some .bool) : Opens P Kd.bool t (fun _ => True) := fun H enc w base spare held fuel cs x hx => by
  obtain ⟨b, rfl, _⟩ := DataW.trod_bool ht hx
  exact ⟨b, rfl, trivial⟩
theorem opens_string {t : TypeId} (ht : P.underlying t = some .string) : Opens P Kd.string t (fun s => s.size ≤ maxLen) := fun H enc w base spare held fuel cs x hx => by
  obtain ⟨s, rfl, _, hs⟩ := DataW.trod_string ht hx
  exact ⟨s, rfl, hs⟩
theorem list_of {α : Type} {p : Nat → α → Prop} : ∀ (n : Nat), (∀ i, i < n → ∃ y, p i y) → ∃ ys : List α, ys.length = n ∧ ∀ (i : Nat) y, ys[i]? = some y → p i y
  | 0, _ => ⟨[], rfl, fun i y h => by simp at h⟩
  | n + 1, h => by
    obtain ⟨ys, hl, hy⟩ := list_of n (fun i hi => h i (Nat.lt_succ_of_lt hi))
    obtain ⟨z, hz⟩ := h n (Nat.lt_succ_self n)
    refine ⟨ys ++ [z], by simp [hl], fun i y hiy => ?_⟩
    rcases Nat.lt_or_ge i ys.length with hlt | hge
    · rw [List.getElem?_append_left hlt] at hiy; exact hy i y hiy
    · rw [List.getElem?_append_right hge] at hiy
      rcases Nat.eq_or_lt_of_le hge with e | e
      · rw [← e, Nat.sub_self] at hiy
        simp at hiy
        subst hiy
        rw [← e, hl]; exact hz
      · rw [List.getElem?_eq_none (by simp; omega)] at hiy; cases hiy
/-- A slice: its elements, up to the length. -/
theorem opens_slice {α : Type} {d : Kd α} {t e : TypeId} {Q : α → Prop} (ht : P.underlying t = some (.slice e)) (hc : P.cellsOf e = d.sz) (he : Opens P d e Q) : Opens P (Kd.slice e d) t (fun xs => ∀ x ∈ xs, Q x) := fun H enc w base spare held fuel cs x hx => by
  rcases open_slice ht hx with ⟨rfl, _⟩ | ⟨a, len, cap, m, n, D, Pl, rfl, hb, hl, hm, hmm, _, hel⟩
  · exact ⟨[], ⟨none, 0, rfl, Nat.le_refl _, rfl, Nat.zero_le _, fun h => absurd h (by simp)⟩, fun x hx => by cases hx⟩
  · have hlm : len ≤ m := by rw [hmm]; split <;> omega
    obtain ⟨ys, hyl, hys⟩ := list_of (p := fun i y => (∃ c, c.length = d.sz ∧ d.K w y c ∧ ∀ j u, c[j]? = some u → w.cell? (a.add (i * d.sz + j)) = some u) ∧ Q y) len (fun i hi => by
      obtain ⟨cs', h1, h2⟩ := hel i (by omega)
      obtain ⟨y, hk, hq⟩ := he H enc w base spare held n cs' _ h2
      obtain ⟨_, hlen, hcell⟩ := World.cells?_some h1
      rw [hc] at hlen
      refine ⟨y, ⟨cs', hlen, hk, fun j u hj => ?_⟩, hq⟩
      have hjl : j < P.cellsOf e := by rw [hc, ← hlen]; exact (List.getElem?_eq_some_iff.1 hj).1
      have := hcell j hjl
      rw [hj, Deep.add_add, hc] at this
      exact this)
    refine ⟨ys, ⟨some a, cap, by rw [hyl], by rw [hyl]; exact hl, ⟨rfl, ?_, fun h0 => ⟨a, rfl, fun j p hp => (hys j p hp).1⟩⟩⟩, fun x hx => ?_⟩
    · rw [hyl]; have : cap ≤ 9223372036854775807 := hm; omega
    · obtain ⟨i, hi, rfl⟩ := List.mem_iff_getElem.1 hx
      exact (hys i _ (List.getElem?_eq_getElem hi)).2
/-- An argument that is a slice. -/
theorem arg_slice {α : Type} {d : Kd α} {t e : TypeId} {Q : List α → Prop} (h : Opens P (Kd.slice e d) t Q) {H : Type} {enc : TypeId × Value → H} {w : World} {base : Nat} {spare : Nat → Bool} {held : Bool} {v : Value} {dd : DataW H} {ps : List MemPlace}
    (ht : P.underlying t = some (.slice e)) {r : Reach} {b0 : Nat} (hval : Value.okWide P w r b0 t v) (hd : DataW.Trod enc P w base spare held t v dd ps) : ∃ A c xs, v = .slice A xs.length c ∧ (d.C w A xs.length xs ∧ xs.length ≤ c) ∧ Q xs := by
  obtain ⟨fuel, hf⟩ := hd
  obtain ⟨xs, ⟨A, c, hcs, hl, hC⟩, hq⟩ := h H enc w base spare held fuel _ _ hf
  obtain ⟨a, len, cap, rfl⟩ := okWide_slice ht hval
  have : (Value.slice a len cap).cells.toList = [Value.slice a len cap] := by simp [Value.cells]
  rw [this] at hcs
  injection hcs with hcs _
  exact ⟨A, c, xs, hcs, ⟨hC, hl⟩, hq⟩
end Go.Proofs.YtppndhbeglcioaaOpen
