-- Written by gprint.py, a program of this session's: the kit's printer over contracts that were proved by hand. Lean checks it.
import Derived.Test.YtppndhbeglcioaaCutB
import Derived.Test.YtppndhbeglcioaaGAx8
import Derived.Lib.Walk
import Derived.Deep.DeepMust
namespace Go.Proofs.Ytppndhbeglcioaa.GA
open Go.RowKit Go.Proofs.YtppndhbeglcioaaW.PrintWords Go.Proofs.YtppndhbeglcioaaW.PrintLast Go.Proofs.YtppndhbeglcioaaW.PrintMore
attribute [local go_sem] max2_int min2_int max_two min_two max_three min_three max_four min_four   -- for this text's walks alone
set_option linter.unusedVariables false
set_option linter.unusedSimpArgs false

/-! ### glob_matches: function 31 -/
-- @own Derived.Lib.Walk Derived.Deep.DeepMust
/-! ### A closure handed to slices.IndexFunc, slices.ContainsFunc: asked from the first element on, till one is told true -/
def idxO {α : Type} (f : α → Option Bool) : Nat → List α → Option Int
  | _, [] => some (-1)
  | i, x :: r => (f x).bind fun b => if b = true then some (i : Int) else idxO f (i + 1) r
def anyO {α : Type} (f : α → Option Bool) : List α → Option Bool
  | [] => some false
  | x :: r => (f x).bind fun b => if b = true then some true else anyO f r
theorem idx_of_any {α : Type} (f : α → Option Bool) : ∀ (l : List α) (i : Nat) (r : Bool), anyO f l = some r → ∃ q, idxO f i l = some q ∧ decide (0 ≤ q) = r
  | [], i, r, h => ⟨-1, rfl, by simp [anyO] at h; rw [h]; rfl⟩
  | x :: l, i, r, h => by
    unfold anyO at h
    unfold idxO
    cases hf : f x with
    | none => rw [hf] at h; cases h
    | some b =>
      rw [hf] at h
      cases b with
      | true => simp at h; exact ⟨(i : Int), by simp, by rw [h]; exact decide_eq_true (by omega)⟩
      | false => exact idx_of_any f l (i + 1) r (by simpa using h)
theorem anyO_mono {α : Type} {f g : α → Option Bool} (h : ∀ x, LeO (f x) (g x)) : ∀ l, LeO (anyO f l) (anyO g l)
  | [] => LeO.refl _
  | x :: l => by
    unfold anyO
    exact LeO.bind (h x) (fun b => LeO.ite (LeO.refl _) (anyO_mono h l))
set_option maxHeartbeats 2000000 in
theorem idxStr (A : Option Addr) (c : Nat) (l : List ByteArray) (w : World) (hr : Kd.C Kd.string w A l.length l) (g : Nat) (lb : Array Value) (eg : ∀ args w, (callFunc g args).run Try.prog w = .ok (.enter g args) w)
    (f : ByteArray → Option Bool) (hp : ∀ (W : World) (x : ByteArray) (b : Bool), x ∈ l → f x = some b → Below w.heap.size w W → Calls Try.prog g (#[.string x] ++ lb) W fun e w' => e = .returned (.bool b) ∧ Below w.heap.size w w') (r : Int) (h : idxO f 0 l = some r) :
    Calls Try.prog 47 #[.slice A l.length c, .func (.func g) #[] lb] w fun e w' => e = .returned (.int .i64 r) ∧ Below w.heap.size w w' := by
  have HR := Aside0.mk hr
  have HP := Aside0.mk hp
  have hbig : l.length ≤ 9223372036854775807 := hr.2.1
  clear hr hp
  go_enter Try.func47, Try.ntmps47
  go_wp2
  go_loopg [5, 8] l.length (fun gg _ s8 wr => ∃ kk : Nat, kk ≤ l.length ∧ l.length - kk ≤ gg ∧ s8 = .int .i64 kk ∧ Aside0 (Below w.heap.size w wr) ∧ Aside0 (idxO f kk (l.drop kk) = some r))
  case atStart => exact ⟨0, Nat.zero_le _, by omega, rfl, ⟨Below.refl _ w⟩, ⟨by rw [List.drop_zero]; exact h⟩⟩
  case round =>
    obtain ⟨kk, hkk, hg, rfl, BW, A0⟩ := hrel
    clear h
    by_cases hlt : kk < l.length
    · have hltz : (kk : Int) < (l.length : Int) := by omega
      have H := A0.out
      clear A0
      rw [List.drop_eq_getElem_cons hlt] at H
      obtain ⟨ad, rfl, hcell⟩ := Kd.at_string (Kd.C_below HR.out BW.out) (kk : Int) (by omega) hltz
      have hy : rdOf ByteArray.empty l (kk : Int) = l[kk] := by
        unfold rdOf
        rw [Int.toNat_natCast, List.getD_eq_getElem?_getD, List.getElem?_eq_getElem hlt]; rfl
      rw [hy, Int.toNat_natCast] at hcell
      clear hy
      have hmem : l[kk] ∈ l := List.getElem_mem hlt
      generalize l[kk] = y at hcell H hmem
      unfold idxO at H
      obtain ⟨b, hb, H1⟩ := Option.bind_eq_some_iff.1 H
      clear H
      have H := H1
      clear H1
      have hcall := HP.out wr y b hmem hb BW.out
      have MM := Aside0.mk hmem
      have HB := Aside0.mk hb
      clear hmem hb
      have HCA := Aside0.mk hcall
      clear hcall
      cases b with
      | true =>
        obtain rfl : (kk : Int) = r := by
          have H2 : (some (kk : Int)) = some r := H
          exact Option.some.inj H2
        clear H
        go_wp2_with (refine HCA.out.mono ?_; rintro e w' ⟨rfl, hb'⟩)
        go_ret
        exact ⟨rfl, hb'⟩
      | false =>
        have HE := Aside0.mk H
        clear H
        go_wp2_with (refine HCA.out.mono ?_; rintro e w' ⟨rfl, hb'⟩)
        go_roundg (l.length - (kk + 1))
        case measure => omega
        case rel =>
          refine ⟨kk + 1, by omega, by omega, by go_num, ⟨hb'⟩, ⟨?_⟩⟩
          have := HE.out
          simpa using this
    · have hltz : ¬ (kk : Int) < (l.length : Int) := by omega
      have : kk = l.length := by omega
      subst this
      have H := A0.out
      rw [List.drop_length] at H
      obtain rfl : (-1 : Int) = r := by
        have H2 : (some (-1 : Int)) = some r := H
        exact Option.some.inj H2
      clear H A0
      go_wp2
      go_ret
      exact ⟨rfl, BW.out⟩
set_option maxHeartbeats 2000000 in
theorem anyStr (A : Option Addr) (c : Nat) (l : List ByteArray) (w : World) (hr : Kd.C Kd.string w A l.length l) (g : Nat) (lb : Array Value) (eg : ∀ args w, (callFunc g args).run Try.prog w = .ok (.enter g args) w)
    (f : ByteArray → Option Bool) (hp : ∀ (W : World) (x : ByteArray) (b : Bool), x ∈ l → f x = some b → Below w.heap.size w W → Calls Try.prog g (#[.string x] ++ lb) W fun e w' => e = .returned (.bool b) ∧ Below w.heap.size w w') (r : Bool) (h : anyO f l = some r) :
    Calls Try.prog 37 #[.slice A l.length c, .func (.func g) #[] lb] w fun e w' => e = .returned (.bool r) ∧ Below w.heap.size w w' := by
  obtain ⟨q, hq, rfl⟩ := idx_of_any f l 0 r h
  have HCA := Aside0.mk (idxStr A c l w hr g lb eg f hp q hq)
  clear hr hp h hq eg
  go_enter Try.func37, Try.ntmps37
  go_wp2_with (refine HCA.out.mono ?_; rintro e w' ⟨rfl, hb'⟩)
  go_ret
  exact ⟨rfl, hb'⟩

/-! ### glob.matches -/
def glob_matches.f (l0 : List ByteArray) (a1 : ByteArray) : Option Bool := anyO (fun x => glob_Match.f x a1) l0
set_option maxHeartbeats 2000000 in
theorem matches_lit (x a1 : ByteArray) (b : Bool) (gb : Nat) (W : World) (hb : W.heap[gb]? = some (.cells #[.string a1] 9 (0, 0))) (h : glob_Match.f x a1 = some b) :
    Calls Try.prog 42 #[.string x, .pointer (some ⟨gb, 0, none⟩)] W fun e w' => e = .returned (.bool b) ∧ Below W.heap.size W w' := by
  have hcell : W.cell? ⟨gb, 0, none⟩ = some (.string a1) := by simp [World.cell?, hb]
  have HCA := fun w2 => glob_Match.calls x a1 b w2 h
  have HB := Aside0.mk (Below.refl W.heap.size W)
  clear h hb
  go_enter Try.func42, Try.ntmps42
  go_wp2_with (refine (HCA _).mono ?_; rintro e w' ⟨rfl, hb'⟩)
  go_ret
  exact ⟨rfl, hb'.below⟩
set_option maxHeartbeats 2000000 in
theorem glob_matches.calls (A0 : Option Addr) (c0 : Nat) (l0 : List ByteArray) (a1 : ByteArray) (r : Bool) (w : World) (hr0 : Kd.C Kd.string w A0 l0.length l0) (hc0 : l0.length ≤ c0) (h : glob_matches.f l0 a1 = some r) :
    Calls Try.prog 31 #[.slice A0 l0.length c0, .string a1] w fun e w' => e = .returned (.bool r) ∧ Below w.heap.size w w' := by
  have HR := Aside0.mk hr0
  have H := Aside0.mk h
  clear hr0 h
  go_enter Try.func31, Try.ntmps31
  have hlt : w.heap.size < (w.alloc (Obj.cells #[Value.string a1] 9)).heap.size := by
    show w.heap.size < (w.heap.push _).size
    rw [Array.size_push]; omega
  have hblk : (w.alloc (Obj.cells #[Value.string a1] 9)).heap[w.heap.size]? = some (.cells #[.string a1] 9 (0, 0)) := by
    show (w.heap.push _)[w.heap.size]? = _
    simp
  have HCA := Aside0.mk (anyStr A0 c0 l0 (w.alloc (Obj.cells #[Value.string a1] 9)) (Kd.C_alloc HR.out _) 42 #[.pointer (some ⟨w.heap.size, 0, none⟩)] (fun args w => by rfl) (fun x => glob_Match.f x a1)
    (fun W x b hm hx hB => (matches_lit x a1 b w.heap.size W (by rw [hB.block _ hlt]; exact hblk) hx).mono fun e w' hh => ⟨hh.1, hB.trans (hh.2.mono hB.size)⟩) r H.out)
  clear hblk
  go_wp2_with (refine HCA.out.mono ?_; rintro e w' ⟨rfl, hb'⟩)
  go_ret
  exact ⟨rfl, Below.trans (below_alloc (Below.refl _ _) _) (hb'.mono (Nat.le_of_lt hlt))⟩

end Go.Proofs.Ytppndhbeglcioaa.GA
