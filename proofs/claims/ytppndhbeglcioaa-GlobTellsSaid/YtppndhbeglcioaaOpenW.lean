/- AN ARGUMENT READ AS DATA, WITH ITS WEIGHTS: as in Open, and what is read weighs no more than a machine may reach (each text's bytes, each slice's). Own work of this session's; of no program. -/
import Derived.Test.YtppndhbeglcioaaCutB
import Derived.SizedLaws
namespace Go.Proofs.YtppndhbeglcioaaOpenW
open Go Go.RowKit Go.Deep Go.ChangeShapes Go.WideShapes Go.Proofs.YtppndhbeglcioaaW.PrintWords Go.Proofs.YtppndhbeglcioaaOpen
set_option linter.unusedVariables false
set_option linter.unusedSimpArgs false
def OpensW {α : Type} (P : Program) (d : Kd α) (t : TypeId) (Q : α → Prop) : Prop :=
  ∀ (H : Type) (enc : TypeId × Value → H) (w : World) (base : Nat) (spare : Nat → Bool) (held : Bool) (fuel : Nat) (cs : List Value) (x : DataW H × List MemPlace),
    DataW.trod enc P w base spare held fuel t cs = some x → (∀ n ∈ x.1.weights P t, n ≤ reachBytes) → ∃ y, d.K w y cs ∧ Q y
variable {P : Program}
theorem OpensW.imp {α : Type} {d : Kd α} {t : TypeId} {Q Q' : α → Prop} (h : OpensW P d t Q) (hq : ∀ y, Q y → Q' y) : OpensW P d t Q' := fun H enc w base spare held fuel cs x hx hw => by
  obtain ⟨y, hk, h1⟩ := h H enc w base spare held fuel cs x hx hw
  exact ⟨y, hk, hq y h1⟩
theorem opens_bool {t : TypeId} (ht : P.underlying t = some .bool) : OpensW P Kd.bool t (fun _ => True) := fun H enc w base spare held fuel cs x hx _ => YtppndhbeglcioaaOpen.opens_bool ht H enc w base spare held fuel cs x hx
theorem opens_string {t : TypeId} (ht : P.underlying t = some .string) : OpensW P Kd.string t (fun s => s.size ≤ reachBytes) := fun H enc w base spare held fuel cs x hx hw => by
  obtain ⟨s, rfl, rfl, hs⟩ := DataW.trod_string ht hx
  refine ⟨s, rfl, ?_⟩
  have := hw s.data.toList.length (by simp [DataW.weights])
  rw [Array.length_toList] at this
  exact this
theorem weightsAll_mem {H : Type} {e : TypeId} : ∀ {l : List (DataW H)} {d : DataW H}, d ∈ l → ∀ n ∈ d.weights P e, n ∈ DataW.weightsAll P e l
  | a :: l, d, hd, n, hn => by
    simp only [DataW.weightsAll, List.mem_append]
    rcases List.mem_cons.1 hd with rfl | h
    · exact Or.inl hn
    · exact Or.inr (weightsAll_mem h n hn)
theorem opens_slice {α : Type} {d : Kd α} {t e : TypeId} {Q : α → Prop} (ht : P.underlying t = some (.slice e)) (hc : P.cellsOf e = d.sz) (he : OpensW P d e Q) : OpensW P (Kd.slice e d) t (fun xs => xs.length * P.bytesOf e ≤ reachBytes ∧ ∀ x ∈ xs, Q x) := fun H enc w base spare held fuel cs x hx hw => by
  rcases open_slice ht hx with ⟨rfl, _⟩ | ⟨a, len, cap, m, n, D, Pl, rfl, hb, hl, hm, hmm, rfl, hel⟩
  · exact ⟨[], ⟨none, 0, rfl, Nat.le_refl _, rfl, Nat.zero_le _, fun h => absurd h (by simp)⟩, by simp, fun x hx => by cases hx⟩
  · have hlm : len ≤ m := by rw [hmm]; split <;> omega
    have hwt : (DataW.slice ((List.range len).map D) ((List.range (m - len)).map fun j => D (len + j))).weights P t = (len + (m - len)) * P.bytesOf e :: (DataW.weightsAll P e ((List.range len).map D) ++ DataW.weightsAll P e ((List.range (m - len)).map fun j => D (len + j))) := by
      simp [DataW.weights, ht]
    have hw' : ∀ n ∈ (len + (m - len)) * P.bytesOf e :: (DataW.weightsAll P e ((List.range len).map D) ++ DataW.weightsAll P e ((List.range (m - len)).map fun j => D (len + j))), n ≤ reachBytes := by rw [← hwt]; exact hw
    obtain ⟨ys, hyl, hys⟩ := list_of (p := fun i y => (∃ c, c.length = d.sz ∧ d.K w y c ∧ ∀ j u, c[j]? = some u → w.cell? (a.add (i * d.sz + j)) = some u) ∧ Q y) len (fun i hi => by
      obtain ⟨cs', h1, h2⟩ := hel i (by omega)
      obtain ⟨y, hk, hq⟩ := he H enc w base spare held n cs' _ h2 (fun k hk => hw' k (List.mem_cons_of_mem _ (List.mem_append.2 (Or.inl (weightsAll_mem (List.mem_map.2 ⟨i, List.mem_range.2 hi, rfl⟩) k hk)))))
      obtain ⟨_, hlen, hcell⟩ := World.cells?_some h1
      rw [hc] at hlen
      refine ⟨y, ⟨cs', hlen, hk, fun j u hj => ?_⟩, hq⟩
      have hjl : j < P.cellsOf e := by rw [hc, ← hlen]; exact (List.getElem?_eq_some_iff.1 hj).1
      have := hcell j hjl
      rw [hj, Deep.add_add, hc] at this
      exact this)
    refine ⟨ys, ⟨some a, cap, by rw [hyl], by rw [hyl]; exact hl, ⟨rfl, ?_, fun h0 => ⟨a, rfl, fun j p hp => (hys j p hp).1⟩⟩⟩, ?_, fun x hx => ?_⟩
    · rw [hyl]; have : cap ≤ 9223372036854775807 := hm; omega
    · have h1 := hw' _ List.mem_cons_self
      rw [hyl]
      exact Nat.le_trans (Nat.mul_le_mul_right _ (by omega)) h1
    · obtain ⟨i, hi, rfl⟩ := List.mem_iff_getElem.1 hx
      exact (hys i _ (List.getElem?_eq_getElem hi)).2
/-- An argument that is a slice. -/
theorem arg_slice {α : Type} {d : Kd α} {t e : TypeId} {Q : List α → Prop} (h : OpensW P (Kd.slice e d) t Q) {H : Type} {enc : TypeId × Value → H} {w : World} {base : Nat} {spare : Nat → Bool} {held : Bool} {v : Value} {dd : DataW H} {ps : List MemPlace}
    (ht : P.underlying t = some (.slice e)) {r : Reach} {b0 : Nat} (hval : Value.okWide P w r b0 t v) (hd : DataW.Trod enc P w base spare held t v dd ps) (hw : ∀ n ∈ dd.weights P t, n ≤ reachBytes) : ∃ A c xs, v = .slice A xs.length c ∧ (d.C w A xs.length xs ∧ xs.length ≤ c) ∧ Q xs := by
  obtain ⟨fuel, hf⟩ := hd
  obtain ⟨xs, ⟨A, c, hcs, hl, hC⟩, hq⟩ := h H enc w base spare held fuel _ _ hf hw
  obtain ⟨a, len, cap, rfl⟩ := okWide_slice ht hval
  have : (Value.slice a len cap).cells.toList = [Value.slice a len cap] := by simp [Value.cells]
  rw [this] at hcs
  injection hcs with hcs _
  exact ⟨A, c, xs, hcs, ⟨hC, hl⟩, hq⟩
/-- An argument that is a struct: its cells are what the kind tells. -/
theorem arg_struct {α : Type} {d : Kd α} {t : TypeId} {fs : Array Field} {Q : α → Prop} (h : OpensW P d t Q) {H : Type} {enc : TypeId × Value → H} {w : World} {base : Nat} {spare : Nat → Bool} {held : Bool} {v : Value} {dd : DataW H} {ps : List MemPlace}
    (ht : P.underlying t = some (.struct fs)) {r : Reach} {b0 : Nat} (hval : Value.okWide P w r b0 t v) (hd : DataW.Trod enc P w base spare held t v dd ps) (hw : ∀ n ∈ dd.weights P t, n ≤ reachBytes) : ∃ (cs : Array Value) (x : α), v = .agg cs ∧ d.K w x cs.toList ∧ Q x := by
  obtain ⟨fuel, hf⟩ := hd
  obtain ⟨x, hk, hq⟩ := h H enc w base spare held fuel _ _ hf hw
  obtain ⟨cs, rfl, _⟩ := okWide_struct ht hval
  exact ⟨cs, x, rfl, hk, hq⟩
/-- The parts of a struct, one by one. -/
theorem weights_part {H : Type} {t : TypeId} {fs : Array Field} (ht : P.underlying t = some (.struct fs)) {parts : List (DataW H)} {j : Nat} {f : Field} {d : DataW H} (hf : fs[j]? = some f) (hd : parts[j]? = some d) (h : ∀ n ∈ (DataW.agg parts).weights P t, n ≤ reachBytes) : ∀ n ∈ d.weights P f.type, n ≤ reachBytes := fun n hn => h n (by
  have e : (DataW.agg parts).weights P t = DataW.weightsEach P (fs.toList.map (·.type)) parts := by simp [DataW.weights, ht]
  rw [e]
  exact DataW.weights_mem_each (j := j) (by simp [hf]) hd n hn)
/-- A field, read at its place. -/
theorem open_field {α : Type} {d : Kd α} {t : TypeId} {fs : Array Field} {Q : α → Prop} (ht : P.underlying t = some (.struct fs)) {H : Type} {enc : TypeId × Value → H} {w : World} {base : Nat} {spare : Nat → Bool} {held : Bool} {cs : List Value} {xs : List (DataW H × List MemPlace)} {n : Nat}
    (hx : ∀ (i : Nat) (f : Field), fs[i]? = some f → DataW.trod enc P w base spare held n f.type ((cs.drop f.offset).take (P.cellsOf f.type)) = xs[i]?) (hl : xs.length = fs.size) (hw : ∀ n ∈ (DataW.agg (xs.map (·.1))).weights P t, n ≤ reachBytes)
    {i : Nat} {f : Field} (hf : fs[i]? = some f) (h : OpensW P d f.type Q) : ∃ y, d.K w y ((cs.drop f.offset).take (P.cellsOf f.type)) ∧ Q y := by
  have hi : i < xs.length := by rw [hl]; exact (Array.getElem?_eq_some_iff.1 hf).1
  have h1 := hx i f hf
  rw [List.getElem?_eq_getElem hi] at h1
  exact h H enc w base spare held n _ _ h1 (weights_part ht hf (d := xs[i].1) (by simp [hi]) hw)
end Go.Proofs.YtppndhbeglcioaaOpenW
