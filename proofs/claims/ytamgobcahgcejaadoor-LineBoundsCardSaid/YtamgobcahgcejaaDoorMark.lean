/- A ROW OF BYTES THAT BEARS THE MARK OF A CONVERSION TO ITS OWN TYPE ('[]byte("..")' of a constant): one place behind its last cell is frozen. What the printer's own rows ('Kd.R') tell, told of such a row. Own work of this session's; of no program. -/
import Derived.Test.YtamgobcahgcejaaDoorWWords
namespace Go.Proofs.YtamgobcahgcejaaDoorMark
open Go Go.RowKit Go.Proofs.YtamgobcahgcejaaDoorW.PrintWords
set_option linter.unusedVariables false

def MR (e : Nat) (w : World) (base : Nat) (ok : Nat → Prop) (v : Value) (xs : List Int) : Prop :=
  ∃ (g cap : Nat) (cur : Array Value), v = .slice (some ⟨g, 0, none⟩) xs.length cap ∧ ok g ∧ base ≤ g ∧ w.heap[g]? = some (.cells cur e (cur.size, cur.size + 1)) ∧ xs.length ≤ cap ∧ xs.length ≤ cur.size ∧ xs.length ≤ 9223372036854775807 ∧
    ∀ (j : Nat) (x : Int), xs[j]? = some x → cur[j]? = some (.int .u8 x)
variable {e : Nat} {w w1 : World} {base : Nat} {ok ok' : Nat → Prop} {v : Value} {xs : List Int}
theorem mono (h : MR e w base ok v xs) (hk : ∀ k, ok k → ok' k) : MR e w base ok' v xs := by
  obtain ⟨g, cap, cur, h1, h2, h3⟩ := h
  exact ⟨g, cap, cur, h1, hk g h2, h3⟩
theorem lt (h : MR e w base ok v xs) : ∀ k, v.ownBlock = some k → k < w.heap.size := by
  obtain ⟨g, cap, cur, rfl, _, _, hb, _⟩ := h
  intro k hk
  simp [Value.ownBlock] at hk
  subst hk
  exact (Array.getElem?_eq_some_iff.1 hb).1
theorem below (h : MR e w base ok v xs) (hb : Below w.heap.size w w1) : MR e w1 base ok v xs := by
  obtain ⟨g, cap, cur, h1, h2, h3, h4, h5⟩ := h
  exact ⟨g, cap, cur, h1, h2, h3, by rw [hb.block g (Array.getElem?_eq_some_iff.1 h4).1]; exact h4, h5⟩
theorem alloc (h : MR e w base ok v xs) (o : Obj) : MR e (w.alloc o) base ok v xs := below h (below_alloc (Below.refl _ _) o)
theorem drew (h : MR e w base ok v xs) : MR e w.drew base ok v xs := below h (below_drew (Below.refl _ _))
theorem drewN (h : MR e w base ok v xs) (m : Nat) : MR e (w.drewN m) base ok v xs := below h (pw_below_drewN (Below.refl _ _) m)
theorem cell (h : MR e w base ok v xs) : ∃ g cap, v = .slice (some ⟨g, 0, none⟩) xs.length cap ∧ ∀ (j : Nat) (x : Int), xs[j]? = some x → w.cell? ⟨g, j, none⟩ = some (.int .u8 x) ∧ w.frozen? ⟨g, j, none⟩ = false := by
  obtain ⟨g, cap, cur, h1, _, _, h4, _, h6, _, h7⟩ := h
  refine ⟨g, cap, h1, fun j x hj => ?_⟩
  have hjl : j < xs.length := (List.getElem?_eq_some_iff.1 hj).1
  constructor
  · simp only [World.cell?, h4]
    exact h7 j x hj
  · simp only [World.frozen?, h4]
    simp; omega
theorem reads {A : Option Addr} {n c : Nat} (h : MR e w base ok (.slice A n c) xs) : n = xs.length ∧ n ≤ c ∧ (Kd.int .u8).C w A xs.length xs := by
  obtain ⟨g, cap, h1, hc⟩ := cell h
  obtain ⟨g', cap', cur, h1', _, _, h4, h5, h6, h8, h7⟩ := h
  injection h1 with ha hn hcap
  injection h1' with ha' hn' hcap'
  subst hn
  refine ⟨rfl, by omega, ⟨rfl, h8, fun h0 => ⟨⟨g, 0, none⟩, ha, fun j x hj => ⟨[.int .u8 x], rfl, rfl, fun i u hi => ?_⟩⟩⟩⟩
  have hjl : j < xs.length := (List.getElem?_eq_some_iff.1 hj).1
  have hi0 : i = 0 := by
    have := (List.getElem?_eq_some_iff.1 hi).1
    simp at this; exact this
  subst hi0
  simp at hi
  subst hi
  rw [add_plain]
  have : j * (Kd.int .u8).sz + 0 = j := by simp [Kd.int, Kd.scalar]
  rw [this]
  exact (hc j x hj).1
theorem form (h : MR e w base ok v xs) : ∃ g cap, v = .slice (some ⟨g, 0, none⟩) xs.length cap ∧ base ≤ g ∧ g < w.heap.size ∧ ∃ cells : Array Value, w.heap[g]? = some (.cells cells e (cells.size, cells.size + 1)) := by
  have hl := lt h
  obtain ⟨g, cap, cur, h1, _, h3, h4, _⟩ := h
  exact ⟨g, cap, h1, h3, hl g (by rw [h1]; rfl), cur, h4⟩
theorem celln {g n cap : Nat} (h : MR e w base ok (.slice (some ⟨g, 0, none⟩) n cap) xs) (i : Int) (h0 : 0 ≤ i) (hi : i < n) : w.cell? ⟨g, i.toNat, none⟩ = some (.int .u8 (rdOf 0 xs i)) ∧ w.frozen? ⟨g, i.toNat, none⟩ = false := by
  obtain ⟨g', cap', h1, hc⟩ := cell h
  injection h1 with ha hn hcap
  injection ha with ha
  injection ha with hg
  subst hg hn
  have hl : i.toNat < xs.length := by omega
  refine hc i.toNat _ ?_
  unfold rdOf
  rw [List.getD_eq_getElem?_getD, List.getElem?_eq_getElem hl]; rfl
theorem putg {g n cap : Nat} (h : MR e w base ok (.slice (some ⟨g, 0, none⟩) n cap) xs) (i : Int) (x : Int) : MR e (w.setCell ⟨g, i.toNat, none⟩ (.int .u8 x)) base ok (.slice (some ⟨g, 0, none⟩) n cap) (xs.set i.toNat x) ∧ w.grownBy (w.setCell ⟨g, i.toNat, none⟩ (.int .u8 x)) (some g) := by
  obtain ⟨g', cap', cur, h1, h2, h3, h4, h5, h6, h8, h7⟩ := h
  injection h1 with ha hn hcap
  injection ha with ha
  injection ha with hg
  subst hg hn hcap
  constructor
  · refine ⟨g, cap, cur.setIfInBounds i.toNat (.int .u8 x), by rw [List.length_set], h2, h3, ?_, by rw [List.length_set]; exact h5, by rw [List.length_set, Array.size_setIfInBounds]; exact h6, by rw [List.length_set]; exact h8, ?_⟩
    · simp only [World.setCell, Array.getElem?_modify, h4]
      simp
    · intro j y hj
      rw [List.getElem?_set] at hj
      rw [Array.getElem?_setIfInBounds]
      by_cases hij : i.toNat = j
      · subst hij
        rw [if_pos rfl] at hj ⊢
        split at hj
        · rw [if_pos (by omega)]
          injection hj with hj; rw [hj]
        · cases hj
      · rw [if_neg hij] at hj ⊢
        exact h7 j y hj
  · exact ⟨rfl, rfl, rfl, by simp [World.setCell], fun k hk hne => Below.heap_setCell _ _ _ _ (fun h => hne (by rw [h]))⟩
theorem str {P : Program} {src dst e' : TypeId} (hs : P.underlying src = some (.slice e')) (he : P.underlying e' = some (.int .u8)) (hd : P.underlying dst = some .string) (h : MR e w base ok v xs) : (convert src dst v).run P w = .ok (.string (strOfNums xs)) w := by
  obtain ⟨g, cap, rfl, hc⟩ := cell h
  refine run_convert_bytes_arg w src e' hs he g 0 xs.length cap xs rfl (fun i hi => ?_) dst hd
  rw [Nat.zero_add]
  exact (hc i _ (by rw [List.getD_eq_getElem?_getD, List.getElem?_eq_getElem hi]; rfl)).1
/-- THE MARK. -/
theorem mark {P : Program} {t e' : TypeId} (ht : P.underlying t = some (.slice e')) (he : P.underlying e' = some (.int .u8)) (h : (Kd.int .u8).R e w base ok v xs) (hp : 0 < xs.length) :
    ∃ wm, (convert t t v).run P w = .ok v wm ∧ MR e wm base ok v xs ∧ w.grownBy wm v.ownBlock ∧ ∀ {w0 : World}, Below base w0 w → base ≤ w.heap.size → Below base w0 wm := by
  have hok := h.1
  have hcell : ∀ (A : Option Addr) (n c : Nat), v = .slice A n c → n ≤ 9223372036854775807 := fun A n c hv => by
    rw [hv] at h
    obtain ⟨hh, _, hC⟩ := Kd.R_reads' h
    rw [hh]; exact hC.2.1
  obtain ⟨inner, ho⟩ := Kd.R_own h
  have hcells := fun g hg => ho.cells (g := g) hg
  rcases ho.2 with ⟨rfl, h0⟩ | ⟨g, cap, cur, rfl, hb, hh, hl, hm, hsz, htk⟩
  · omega
  obtain ⟨_, _, hC⟩ := Kd.R_reads' h
  have hsz' : cur.size = cap := by rw [hsz]; simp [Kd.int, Kd.scalar]
  refine ⟨w.freeze ⟨g, cur.size, none⟩ 1, ?_, ?_, ?_, ?_⟩
  · have hsh : w.shape? g = some (e, cur.size) := by unfold World.shape?; rw [hh]
    simp [convert, run_underlying ht, run_underlying he, markStringish, hsh]
  · have hfz : (w.freeze ⟨g, cur.size, none⟩ 1).heap[g]? = some (.cells cur e (cur.size, cur.size + 1)) := by
      unfold World.freeze
      rw [if_neg (by decide)]
      simp only [Array.getElem?_modify, hh]
      simp
    refine ⟨g, cap, cur, rfl, hok g rfl, hb, hfz, hl, by omega, hcell _ _ _ rfl, fun j x hj => ?_⟩
    have hjl : j < xs.length := (List.getElem?_eq_some_iff.1 hj).1
    obtain ⟨ad, had, hc⟩ := Kd.at_int hC (j : Int) (by omega) (by omega)
    injection had with had
    subst had
    rw [add_plain] at hc
    simp only [World.cell?, hh] at hc
    have hrd : rd xs (j : Int) = x := by
      unfold rd
      rw [Int.toNat_natCast, List.getD_eq_getElem?_getD, hj]; rfl
    rw [hrd] at hc
    simpa using hc
  · refine ⟨rfl, rfl, rfl, ?_, fun k hk hne => ?_⟩
    · unfold World.freeze; rw [if_neg (by decide)]; simp
    · unfold World.freeze
      rw [if_neg (by decide)]
      simp only [Array.getElem?_modify]
      rw [if_neg (fun hh => hne (by simp [Value.ownBlock, hh]))]
  · intro w0 hB hbase
    refine hB.trans ⟨rfl, rfl, rfl, ?_, fun k hk => ?_⟩
    · unfold World.freeze; rw [if_neg (by decide)]; simp
    · unfold World.freeze
      rw [if_neg (by decide)]
      simp only [Array.getElem?_modify]
      rw [if_neg (by omega)]
end Go.Proofs.YtamgobcahgcejaaDoorMark
