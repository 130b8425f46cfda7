-- Written by gprint.py, a program of this session's: the kit's printer over contracts that were proved by hand. Lean checks it.
import Derived.Test.YtppndhbeglcioaaCutB
import Derived.Test.YtppndhbeglcioaaShelf
import Derived.Lib.OwnBridge
import Derived.Lib.Walk
import Derived.Deep.DeepMust
namespace Go.Proofs.Ytppndhbeglcioaa.GA
open Go.RowKit Go.Proofs.YtppndhbeglcioaaW.PrintWords Go.Proofs.YtppndhbeglcioaaW.PrintLast Go.Proofs.YtppndhbeglcioaaW.PrintMore
attribute [local go_sem] max2_int min2_int max_two min_two max_three min_three max_four min_four   -- for this text's walks alone
set_option linter.unusedVariables false
set_option linter.unusedSimpArgs false

/-! ### norm_Once: function 32 -/
-- @own Derived.Test.YtppndhbeglcioaaUniq Derived.Test.YtppndhbeglcioaaShelf Derived.Lib.OwnBridge Derived.Lib.Walk Derived.Deep.DeepMust
/-! ### entail/norm.Once -/
open Go.Proofs.YtppndhbeglcioaaUniq
def sortedL (zs : List (List UInt8)) : List (List UInt8) := zs.mergeSort fun x y => decide (x ≤ y)
theorem below_grow (w : World) (os : Array Obj) : Below w.heap.size w (Go.Sort.grow w os) := ⟨rfl, rfl, rfl, by show w.heap.size ≤ (w.heap ++ os).size; rw [Array.size_append]; omega, fun k hk => by
  show (w.heap ++ os)[k]? = _
  rw [Array.getElem?_append_left hk]⟩
theorem sort_own (w : World) (base g n cap : Nat) (zs : List (List UInt8)) (h : w.ownsRow base 9 1 (.slice (some ⟨g, 0, none⟩) n cap) n (zs.map encStr)) (hsz : n < 4611686018427387904) :
    Calls Try.prog 44 #[.slice (some ⟨g, 0, none⟩) n cap] w fun e w' => e = .returned (.tuple #[]) ∧ w'.ownsRow base 9 1 (.slice (some ⟨g, 0, none⟩) n cap) n ((sortedL zs).map encStr) ∧ ∀ w0 B, Below B w0 w → B ≤ g → B ≤ w.heap.size → Below B w0 w' := by
  obtain ⟨g', cap', e1, hb, hlt, hn, hm, hl, hH⟩ := Go.Lib.holds_of_ownsRow h (by intro hh; injection hh with h1; cases h1)
  injection e1 with e1 _ e3
  injection e1 with e1
  injection e1 with e1
  subst e1 e3 hl
  refine (Try.slices_Sort_string g 0 cap zs w hH hlt hsz).mono ?_
  rintro e w' ⟨rfl, q, os, rfl⟩
  have hlen : (sortedL zs).length = zs.length := List.length_mergeSort _
  have ho := Go.Lib.ownsRow_putRow (q := q) (ys := sortedL zs) h hlen (Nat.le_refl _)
  rw [List.take_of_length_le (by omega)] at ho
  refine ⟨rfl, pw_own_below ho (below_grow _ _), fun w0 B hB hg hs => ?_⟩
  have b1 := Go.Lib.below_putRow (enc := encStr) (q := q) (d := (sortedL zs).toArray) hB hg
  exact b1.trans ((below_grow _ os).mono (by simpa [Go.Sort.putRow, Go.Sort.mapBlock, Go.Sort.ahead] using hs))
theorem compact_own (w : World) (base g n cap : Nat) (zs : List (List UInt8)) (h : w.ownsRow base 9 1 (.slice (some ⟨g, 0, none⟩) n cap) n (zs.map encStr)) (hsz : n ≤ 9223372036854775807) :
    Calls Try.prog 45 #[.slice (some ⟨g, 0, none⟩) n cap] w fun e w' => e = .returned (.slice (some ⟨g, 0, none⟩) (Go.Lib.compact zs).length cap) ∧ w'.ownsRow base 9 1 (.slice (some ⟨g, 0, none⟩) (Go.Lib.compact zs).length cap) (Go.Lib.compact zs).length ((Go.Lib.compact zs).map encStr) ∧ ∀ w0 B, Below B w0 w → B ≤ g → Below B w0 w' := by
  obtain ⟨g', cap', e1, hb, hlt, hn, hm, hl, hH⟩ := Go.Lib.holds_of_ownsRow h (by intro hh; injection hh with h1; cases h1)
  injection e1 with e1 _ e3
  injection e1 with e1
  injection e1 with e1
  subst e1 e3 hl
  refine (Try.slices_Compact_string g 0 cap zs w hH hsz hn).mono ?_
  rintro e w' ⟨rfl, q, rfl⟩
  have hle := Go.Lib.compact_length_le zs
  have ho := Go.Lib.ownsRow_putRow (q := q) (ys := Go.Lib.compact zs ++ List.replicate (zs.length - (Go.Lib.compact zs).length) []) (k := (Go.Lib.compact zs).length) h (by simp; omega) hle
  rw [List.take_left] at ho
  exact ⟨rfl, ho, fun w0 B hB hg => Go.Lib.below_putRow hB hg⟩

def onceL (l0 : List ByteArray) : List ByteArray := (Go.Lib.compact (sortedL (l0.map (·.data.toList)))).map (fun b => ⟨b.toArray⟩)
theorem onceL_eq (l0 : List ByteArray) : onceL l0 = onceB l0 := by unfold onceL onceB sortedL; rw [compact_sort]
def norm_Once.f (l0 : List ByteArray) : Option (List ByteArray) := if l0.length * 16 ≤ 140737488355328 then some (onceB l0) else none
theorem enc_once (zs : List (List UInt8)) : zs.map encStr = encs Value.string (zs.map (fun b => (⟨b.toArray⟩ : ByteArray))) := by
  simp [encs, encStr, List.map_map, Function.comp]
theorem row_of_strs {w : World} {A : Option Addr} {xs : List ByteArray} (h : Kd.C Kd.string w A xs.length xs) (h0 : 0 < xs.length) :
    ∃ b o, A = some ⟨b, o, none⟩ ∧ b < w.heap.size ∧ ∀ (j : Nat) x, xs[j]? = some x → w.cell? ⟨b, o + j, none⟩ = some (.string x) := by
  have hc := h.2.2
  obtain ⟨ad, rfl, hc'⟩ := hc h0
  obtain ⟨b, o, sp⟩ := ad
  have g : ∀ (j : Nat) x, xs[j]? = some x → w.cell? (Addr.add ⟨b, o, sp⟩ j) = some (.string x) := by
    intro j x hj
    obtain ⟨c, _, hK, hcell⟩ := hc' j x hj
    have hK' : c = [Value.string x] := hK
    subst hK'
    have := hcell 0 _ rfl
    simpa [Kd.string, Kd.scalar] using this
  have g0 := g 0 _ (List.getElem?_eq_getElem h0)
  have hsp : sp = none := by
    cases sp with
    | none => rfl
    | some s => simp [Addr.add, World.cell?] at g0; split at g0 <;> simp at g0
  subst hsp
  refine ⟨b, o, rfl, ?_, ?_⟩
  · exact World.block_lt_of_cell? w _ g0
  · intro j x hj
    have := g j x hj
    rcases Nat.eq_zero_or_pos j with rfl | hp
    · simpa [Addr.add] using this
    · simpa [Addr.add, Nat.pos_iff_ne_zero.1 hp] using this
set_option maxHeartbeats 2000000 in
theorem once_cells (b o c0 : Nat) (l0 : List ByteArray) (w : World) (hc : ∀ (j : Nat) x, l0[j]? = some x → w.cell? ⟨b, o + j, none⟩ = some (.string x)) (hsz : l0.length * 16 ≤ 140737488355328) :
    Calls Try.prog 32 #[.slice (some ⟨b, o, none⟩) l0.length c0] w fun e w' => ∃ v0_, e = .returned v0_ ∧ Kd.R Kd.string 9 w' w.heap.size (fun _ => True) v0_ (onceL l0) ∧ Below w.heap.size w w' := by
  have C1 := Aside0.mk (Try.slices_Clone_string b o l0.length c0 l0 w (Nat.le_refl _) hsz (fun j hj => hc j _ (by rw [List.getD_eq_getElem?_getD, List.getElem?_eq_getElem hj]; rfl)))
  clear hc
  go_enter Try.func32, Try.ntmps32
  go_upto_region 2 with (refine C1.out.mono ?_; rintro e w1 ⟨v1, rfl, ho, hne, hb⟩; have HO := Aside0.mk ho; have HN := Aside0.mk hne; have HB := Aside0.mk hb; clear ho hne hb)
  have hm : (l0.take l0.length).map Value.string = (l0.map (·.data.toList)).map encStr := by rw [List.take_length, Go.Lib.map_encStr]
  have ho := HO.out
  rw [hm] at ho
  obtain ⟨g, cap, rfl, hbg, hlt, hn, hmx, hl, _⟩ := Go.Lib.holds_of_ownsRow ho HN.out
  have S1 := Aside0.mk (sort_own w1 w.heap.size g l0.length cap _ ho (by omega))
  have B1 := Aside0.mk hbg
  clear ho HO HN C1 hm hbg hlt hn hmx hl
  go_upto_region 3 with (refine S1.out.mono ?_; rintro e w2 ⟨rfl, ho, hb⟩; have HO2 := Aside0.mk ho; have HB2 := Aside0.mk (hb w w.heap.size HB.out B1.out (HB.out.size)); clear ho hb)
  have C2 := Aside0.mk (compact_own w2 w.heap.size g l0.length cap _ HO2.out (by omega))
  clear S1
  go_wp2_with (refine C2.out.mono ?_; rintro e w3 ⟨rfl, ho, hb⟩; have HO3 := Aside0.mk ho; have HB3 := Aside0.mk (hb w w.heap.size HB2.out B1.out); clear ho hb)
  go_ret
  refine ⟨_, rfl, ?_, HB3.out⟩
  have h3 := HO3.out
  rw [enc_once] at h3
  refine Kd.R_of_own (by unfold onceL; rw [List.length_map]; exact h3) (fun _ _ => trivial)
set_option maxHeartbeats 2000000 in
theorem once_nil (n c : Nat) (w : World) : Calls Try.prog 32 #[.slice none 0 c] w fun e w' => ∃ v0_, e = .returned v0_ ∧ Kd.R Kd.string 9 w' w.heap.size (fun _ => True) v0_ [] ∧ Below w.heap.size w w' := by
  have C1 := Aside0.mk (Try.slices_Clone_string_nil 0 c)
  go_enter Try.func32, Try.ntmps32
  go_wp2_with (first | (refine (C1.out _).mono ?_; rintro e w1 ⟨rfl, rfl⟩) | (refine (Try.slices_Sort_string_none none 0 _).mono ?_; rintro e w2 ⟨rfl, rfl⟩) | (refine (Try.slices_Compact_string_empty none 0 _).mono ?_; rintro e w3 ⟨rfl, rfl⟩))
  go_ret
  exact ⟨_, rfl, Kd.R_nil _ _ _ _ _, Below.refl _ _⟩
set_option maxHeartbeats 2000000 in
theorem once_zero (a : Addr) (c : Nat) (w : World) : Calls Try.prog 32 #[.slice (some a) 0 c] w fun e w' => ∃ v0_, e = .returned v0_ ∧ Kd.R Kd.string 9 w' w.heap.size (fun _ => True) v0_ [] ∧ Below w.heap.size w w' := by
  have C1 := Aside0.mk (Try.slices_Clone_string_zero a c w)
  go_enter Try.func32, Try.ntmps32
  go_upto_region 2 with (refine C1.out.mono ?_; rintro e w1 ⟨v1, rfl, ho, hne, hb⟩; have HO := Aside0.mk ho; have HN := Aside0.mk hne; have HB := Aside0.mk hb; clear ho hne hb)
  obtain ⟨g, cap, rfl, hbg, hlt, hn, hmx, hl, _⟩ := Go.Lib.holds_of_ownsRow (enc := encStr) (zs := []) HO.out HN.out
  clear C1
  go_wp2_with (first | (refine (Try.slices_Sort_string_none (some ⟨g, 0, none⟩) cap _).mono ?_; rintro e w2 ⟨rfl, rfl⟩) | (refine (Try.slices_Compact_string_empty (some ⟨g, 0, none⟩) cap _).mono ?_; rintro e w3 ⟨rfl, rfl⟩))
  go_ret
  exact ⟨_, rfl, Kd.R_of_own (enc := Value.string) (xs := []) HO.out (fun _ _ => trivial), HB.out⟩
theorem norm_Once.calls (A0 : Option Addr) (c0 : Nat) (l0 : List ByteArray) (r : List ByteArray) (w : World) (hr0 : Kd.C Kd.string w A0 l0.length l0) (hc0 : l0.length ≤ c0) (h : norm_Once.f l0 = some r) :
    Calls Try.prog 32 #[.slice A0 l0.length c0] w fun e w' => ∃ v0_ : Value, e = .returned (v0_) ∧ Kd.R Kd.string 9 w' w.heap.size (fun _ => True) v0_ r ∧ Below w.heap.size w w' := by
  unfold norm_Once.f at h
  split at h
  · rename_i hsz
    obtain rfl := Option.some.inj h
    rw [← onceL_eq]
    rcases Nat.eq_zero_or_pos l0.length with h0 | h0
    · obtain rfl : l0 = [] := List.eq_nil_of_length_eq_zero h0
      have e0 : onceL [] = [] := by simp [onceL, sortedL, Go.Lib.compact]; rfl
      rw [e0]
      cases A0 with
      | none => exact once_nil 0 c0 w
      | some a => exact once_zero a c0 w
    · obtain ⟨b, o, rfl, hb, hc⟩ := row_of_strs hr0 h0
      exact once_cells b o c0 l0 w hc hsz
  · cases h

end Go.Proofs.Ytppndhbeglcioaa.GA
