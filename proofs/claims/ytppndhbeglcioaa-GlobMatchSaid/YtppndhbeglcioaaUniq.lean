/- Texts, rising, each once: what sorting and leaving out of neighbours that are alike comes to; no program in sight, no condition. -/
import Derived.Lib.RowBridge
import Derived.Lib.SlicesCompact
import Derived.Sort.Walk0
namespace Go.Proofs.YtppndhbeglcioaaUniq
open Go
/-- One text put in. -/
def ins (x : List UInt8) : List (List UInt8) → List (List UInt8)
  | [] => [x]
  | y :: r => if Op.bytesLess x y then x :: y :: r else if Op.bytesLess y x then y :: ins x r else y :: r
/-- Texts, rising, each once. -/
def uniq : List (List UInt8) → List (List UInt8)
  | [] => []
  | x :: r => ins x (uniq r)
def Asc (l : List (List UInt8)) : Prop := l.Pairwise (· < ·)
theorem less_iff (x y : List UInt8) : Op.bytesLess x y = true ↔ x < y := by rw [Go.Proofs.bytesLess_eq]; simp
theorem tri {x y : List UInt8} (h1 : ¬ x < y) (h2 : ¬ y < x) : x = y := List.le_antisymm (List.not_lt.1 h2) (List.not_lt.1 h1)
theorem mem_ins (x : List UInt8) : ∀ (l : List (List UInt8)) (z : List UInt8), z ∈ ins x l ↔ z = x ∨ z ∈ l
  | [], z => by simp [ins]
  | y :: r, z => by
    unfold ins
    by_cases h1 : Op.bytesLess x y = true
    · rw [if_pos h1, List.mem_cons]
    · rw [if_neg h1]
      by_cases h2 : Op.bytesLess y x = true
      · rw [if_pos h2, List.mem_cons, mem_ins x r z, List.mem_cons]
        constructor
        · rintro (h | h | h)
          · exact .inr (.inl h)
          · exact .inl h
          · exact .inr (.inr h)
        · rintro (h | h | h)
          · exact .inr (.inl h)
          · exact .inl h
          · exact .inr (.inr h)
      · rw [if_neg h2]
        obtain rfl : x = y := tri (fun h => h1 ((less_iff _ _).2 h)) (fun h => h2 ((less_iff _ _).2 h))
        rw [List.mem_cons]
        constructor
        · exact fun h => .inr h
        · rintro (h | h)
          · exact .inl h
          · exact h
theorem asc_ins (x : List UInt8) : ∀ (l : List (List UInt8)), Asc l → Asc (ins x l)
  | [], _ => by simp [ins, Asc]
  | y :: r, h => by
    obtain ⟨hy, hr⟩ := List.pairwise_cons.1 h
    unfold ins
    by_cases h1 : Op.bytesLess x y = true
    · rw [if_pos h1]
      refine List.pairwise_cons.2 ⟨fun z hz => ?_, h⟩
      rcases List.mem_cons.1 hz with rfl | hz
      · exact (less_iff _ _).1 h1
      · exact List.lt_trans ((less_iff _ _).1 h1) (hy z hz)
    · rw [if_neg h1]
      by_cases h2 : Op.bytesLess y x = true
      · rw [if_pos h2]
        refine List.pairwise_cons.2 ⟨fun z hz => ?_, asc_ins x r hr⟩
        rcases (mem_ins x r z).1 hz with rfl | hz
        · exact (less_iff _ _).1 h2
        · exact hy z hz
      · rw [if_neg h2]; exact h
theorem asc_uniq : ∀ l, Asc (uniq l)
  | [] => List.Pairwise.nil
  | x :: r => asc_ins x _ (asc_uniq r)
theorem mem_uniq : ∀ (l : List (List UInt8)) (z : List UInt8), z ∈ uniq l ↔ z ∈ l
  | [], z => by simp [uniq]
  | x :: r, z => by unfold uniq; rw [mem_ins, mem_uniq r z, List.mem_cons]
/-- Two rising rows of the same texts are one. -/
theorem asc_ext : ∀ {a b : List (List UInt8)}, Asc a → Asc b → (∀ z, z ∈ a ↔ z ∈ b) → a = b
  | [], [], _, _, _ => rfl
  | [], y :: b, _, _, h => by have := (h y).2 List.mem_cons_self; cases this
  | x :: a, [], _, _, h => by have := (h x).1 List.mem_cons_self; cases this
  | x :: a, y :: b, ha, hb, h => by
    obtain ⟨hx, ha'⟩ := List.pairwise_cons.1 ha
    obtain ⟨hy, hb'⟩ := List.pairwise_cons.1 hb
    have e : x = y := by
      rcases List.mem_cons.1 ((h x).1 List.mem_cons_self) with e | h1
      · exact e
      · rcases List.mem_cons.1 ((h y).2 List.mem_cons_self) with e | h2
        · exact e.symm
        · exact absurd (List.lt_trans (hy x h1) (hx y h2)) (List.lt_irrefl _)
    subst e
    congr 1
    refine asc_ext ha' hb' fun z => ⟨fun hz => ?_, fun hz => ?_⟩
    · rcases List.mem_cons.1 ((h z).1 (List.mem_cons_of_mem _ hz)) with rfl | h1
      · exact absurd (hx _ hz) (List.lt_irrefl _)
      · exact h1
    · rcases List.mem_cons.1 ((h z).2 (List.mem_cons_of_mem _ hz)) with rfl | h1
      · exact absurd (hy _ hz) (List.lt_irrefl _)
      · exact h1
theorem uniq_eq {l a : List (List UInt8)} (ha : Asc a) (h : ∀ z, z ∈ a ↔ z ∈ l) : a = uniq l :=
  asc_ext ha (asc_uniq l) fun z => (h z).trans (mem_uniq l z).symm
theorem uniq_asc {a : List (List UInt8)} (ha : Asc a) : uniq a = a := (uniq_eq ha fun _ => Iff.rfl).symm
theorem uniq_len : ∀ l, (uniq l).length ≤ l.length
  | [] => Nat.le_refl _
  | x :: r => by
    have ih := uniq_len r
    have : ∀ l, (ins x l).length ≤ l.length + 1 := by
      intro l
      induction l with
      | nil => simp [ins]
      | cons y q ih => unfold ins; split
                       · simp
                       · split
                         · simp; exact ih
                         · simp
    have := this (uniq r)
    unfold uniq
    simp only [List.length_cons]; omega
/-! ### Sorted, and of neighbours that are alike one -/
theorem cup (d : Array (List UInt8)) (hs : ∀ i j, i ≤ j → j < d.size → d[i]! ≤ d[j]!) : ∀ m, m ≤ d.size → Asc (Lib.compactUpTo d m) ∧ (∀ z, z ∈ Lib.compactUpTo d m ↔ ∃ i, i < m ∧ z = d[i]!)
  | 0, _ => by constructor <;> simp [Lib.compactUpTo, Asc]
  | m + 1, hm => by
    obtain ⟨h1, h2⟩ := cup d hs m (by omega)
    rw [Lib.compactUpTo_succ]
    by_cases hk : Lib.keeps d m = true
    · rw [if_pos hk]
      constructor
      · refine List.pairwise_append.2 ⟨h1, by simp, fun a ha b hb => ?_⟩
        simp only [List.mem_singleton] at hb
        subst hb
        obtain ⟨i, hi, rfl⟩ := (h2 a).1 ha
        have hne : d[m]! ≠ d[m - 1]! := by
          simp only [Lib.keeps, decide_eq_true_eq] at hk
          rcases hk with hk | hk
          · omega
          · exact hk
        have e1 := hs i (m - 1) (by omega) (by omega)
        have e2 := hs (m - 1) m (by omega) (by omega)
        exact Decidable.byContradiction fun hn => by
          have e3 : d[m]! ≤ d[i]! := List.not_lt.1 hn
          exact hne (List.le_antisymm (List.le_trans e3 e1) e2)
      · intro z
        rw [List.mem_append, h2 z, List.mem_singleton]
        constructor
        · rintro (⟨i, hi, rfl⟩ | rfl)
          · exact ⟨i, by omega, rfl⟩
          · exact ⟨m, by omega, rfl⟩
        · rintro ⟨i, hi, rfl⟩
          by_cases hi2 : i < m
          · exact .inl ⟨i, hi2, rfl⟩
          · exact .inr (by rw [show i = m by omega])
    · rw [if_neg hk, List.append_nil]
      refine ⟨h1, fun z => ?_⟩
      rw [h2 z]
      have hz : ¬ (m = 0) ∧ d[m]! = d[m - 1]! := by
        simp only [Lib.keeps, decide_eq_true_eq, not_or, Decidable.not_not] at hk
        exact hk
      constructor
      · rintro ⟨i, hi, rfl⟩
        exact ⟨i, by omega, rfl⟩
      · rintro ⟨i, hi, rfl⟩
        by_cases hi2 : i < m
        · exact ⟨i, hi2, rfl⟩
        · exact ⟨m - 1, by omega, by rw [show i = m by omega]; exact hz.2⟩
theorem compact_sort (zs : List (List UInt8)) : Lib.compact (zs.mergeSort fun x y => decide (x ≤ y)) = uniq zs := by
  have hp : (zs.mergeSort fun x y => decide (x ≤ y)).Pairwise (fun x y => decide (x ≤ y) = true) := List.pairwise_mergeSort (fun a b c h1 h2 => by
    simp only [decide_eq_true_eq] at h1 h2 ⊢; exact List.le_trans h1 h2) (fun a b => by
    simp only [Bool.or_eq_true, decide_eq_true_eq]; exact List.le_total a b) zs
  obtain ⟨s, hs⟩ : ∃ s, s = zs.mergeSort fun x y => decide (x ≤ y) := ⟨_, rfl⟩
  rw [← hs] at hp ⊢
  have hm : ∀ z, z ∈ s ↔ z ∈ zs := fun z => by rw [hs]; exact List.mem_mergeSort
  have gb : ∀ i (h : i < s.length), s.toArray[i]! = s[i] := fun i h => by simp [getElem!_pos, h]
  have srt : ∀ i j, i ≤ j → j < s.toArray.size → s.toArray[i]! ≤ s.toArray[j]! := by
    intro i j hij hj
    have hj' : j < s.length := by simpa using hj
    rw [gb i (by omega), gb j hj']
    by_cases e : i = j
    · subst e; exact List.le_refl _
    · have := List.pairwise_iff_getElem.1 hp i j (by omega) hj' (by omega)
      simpa using this
  have c := cup s.toArray srt s.length (by simp)
  unfold Lib.compact
  refine uniq_eq c.1 fun z => ?_
  rw [c.2 z, ← hm z]
  constructor
  · rintro ⟨i, hi, rfl⟩
    rw [gb i hi]; exact List.getElem_mem hi
  · intro hz
    obtain ⟨i, hi, rfl⟩ := List.getElem_of_mem hz
    exact ⟨i, hi, (gb i hi).symm⟩
/-! ### .. of texts as they stand in memory -/
def onceB (l : List ByteArray) : List ByteArray := (uniq (l.map (·.data.toList))).map (fun b => ⟨b.toArray⟩)
end Go.Proofs.YtppndhbeglcioaaUniq
