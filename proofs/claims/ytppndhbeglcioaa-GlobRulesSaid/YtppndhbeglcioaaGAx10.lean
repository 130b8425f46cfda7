-- Written by gprint.py, a program of this session's: the kit's printer over contracts that were proved by hand. Lean checks it.
import Derived.Test.YtppndhbeglcioaaCutB
import Derived.Test.YtppndhbeglcioaaGAx2
import Derived.Test.YtppndhbeglcioaaGAx9
import Derived.Lib.Walk
import Derived.Deep.DeepMust
namespace Go.Proofs.Ytppndhbeglcioaa.GA
open Go.RowKit Go.Proofs.YtppndhbeglcioaaW.PrintWords Go.Proofs.YtppndhbeglcioaaW.PrintLast Go.Proofs.YtppndhbeglcioaaW.PrintMore
attribute [local go_sem] max2_int min2_int max_two min_two max_three min_three max_four min_four   -- for this text's walks alone
set_option linter.unusedVariables false
set_option linter.unusedSimpArgs false

/-! ### glob_In: function 10 -/
-- @own Derived.Lib.Walk Derived.Deep.DeepMust
/-! ### entail/glob.In -/
set_option maxHeartbeats 4000000 in
theorem idxGrp (A : Option Addr) (c : Nat) (l : List S36) (w : World) (hr : Kd.C k36 w A l.length l) (g : Nat) (lb : Array Value) (eg : ∀ args w, (callFunc g args).run Try.prog w = .ok (.enter g args) w)
    (f : S36 → Option Bool) (hp : ∀ (W : World) (x : S36) (b : Bool) (A1 : Option Addr) (c1 : Nat), f x = some b → Below w.heap.size w W → Kd.C Kd.string W A1 x.f1.length x.f1 → x.f1.length ≤ c1 → Calls Try.prog g (#[.agg #[.string x.f0, .slice A1 x.f1.length c1]] ++ lb) W fun e w' => e = .returned (.bool b) ∧ Below w.heap.size w w') (r : Int) (h : idxO f 0 l = some r) :
    Calls Try.prog 39 #[.slice A l.length c, .func (.func g) #[] lb] w fun e w' => e = .returned (.int .i64 r) ∧ Below w.heap.size w w' := by
  have hu36 := Try.underlying36
  have HR := Aside0.mk hr
  have HP := Aside0.mk hp
  have hbig : l.length ≤ 9223372036854775807 := hr.2.1
  clear hr hp
  go_enter Try.func39, Try.ntmps39
  go_wp2
  go_loopg [5, 8] l.length (fun gg _ s8 wr => ∃ kk : Nat, kk ≤ l.length ∧ l.length - kk ≤ gg ∧ s8 = .int .i64 kk ∧ Aside0 (Below w.heap.size w wr) ∧ Aside0 (idxO f kk (l.drop kk) = some r))
  case atStart => exact ⟨0, Nat.zero_le _, by omega, rfl, ⟨Below.refl _ w⟩, ⟨by rw [List.drop_zero]; exact h⟩⟩
  case round =>
    obtain ⟨kk, hkk, hg, rfl, BW, A0⟩ := hrel
    clear h
    by_cases hlt : kk < l.length
    · have hltz : (kk : Int) < (l.length : Int) := by omega
      have H := A0.out
      clear A0
      rw [List.drop_eq_getElem_cons hlt] at H
      obtain ⟨ad, A1, c1, rfl, hx0, hx1, hl1, hi1⟩ := at_T36 (Kd.C_below HR.out BW.out) (kk : Int) (by omega) hltz
      have hy : rd_T36 l (kk : Int) = l[kk] := by
        unfold rd_T36
        rw [Int.toNat_natCast, List.getD_eq_getElem?_getD, List.getElem?_eq_getElem hlt]; rfl
      rw [hy] at hx0 hx1 hl1 hi1
      rw [Int.toNat_natCast] at hx0 hx1
      clear hy
      generalize l[kk] = y at hx0 hx1 hl1 hi1 H
      unfold idxO at H
      obtain ⟨b, hb, H1⟩ := Option.bind_eq_some_iff.1 H
      clear H
      have H := H1
      clear H1
      have HCA := Aside0.mk (HP.out wr y b A1 c1 hb BW.out hi1 hl1)
      have HI := Aside0.mk hi1
      have HL := Aside0.mk hl1
      have HB := Aside0.mk hb
      clear hb hi1 hl1
      cases b with
      | true =>
        obtain rfl : (kk : Int) = r := by
          have H2 : (some (kk : Int)) = some r := H
          exact Option.some.inj H2
        clear H
        go_wp2_with (refine HCA.out.mono ?_; rintro e w' ⟨rfl, hb'⟩)
        go_ret
        exact ⟨rfl, hb'⟩
      | false =>
        have HE := Aside0.mk H
        clear H
        go_wp2_with (refine HCA.out.mono ?_; rintro e w' ⟨rfl, hb'⟩)
        go_roundg (l.length - (kk + 1))
        case measure => omega
        case rel =>
          refine ⟨kk + 1, by omega, by omega, by go_num, ⟨hb'⟩, ⟨?_⟩⟩
          have := HE.out
          simpa using this
    · have hltz : ¬ (kk : Int) < (l.length : Int) := by omega
      have : kk = l.length := by omega
      subst this
      have H := A0.out
      rw [List.drop_length] at H
      obtain rfl : (-1 : Int) = r := by
        have H2 : (some (-1 : Int)) = some r := H
        exact Option.some.inj H2
      clear H A0
      go_wp2
      go_ret
      exact ⟨rfl, BW.out⟩
set_option maxHeartbeats 2000000 in
theorem anyGrp (A : Option Addr) (c : Nat) (l : List S36) (w : World) (hr : Kd.C k36 w A l.length l) (g : Nat) (lb : Array Value) (eg : ∀ args w, (callFunc g args).run Try.prog w = .ok (.enter g args) w)
    (f : S36 → Option Bool) (hp : ∀ (W : World) (x : S36) (b : Bool) (A1 : Option Addr) (c1 : Nat), f x = some b → Below w.heap.size w W → Kd.C Kd.string W A1 x.f1.length x.f1 → x.f1.length ≤ c1 → Calls Try.prog g (#[.agg #[.string x.f0, .slice A1 x.f1.length c1]] ++ lb) W fun e w' => e = .returned (.bool b) ∧ Below w.heap.size w w') (r : Bool) (h : anyO f l = some r) :
    Calls Try.prog 26 #[.slice A l.length c, .func (.func g) #[] lb] w fun e w' => e = .returned (.bool r) ∧ Below w.heap.size w w' := by
  obtain ⟨q, hq, rfl⟩ := idx_of_any f l 0 r h
  have HCA := Aside0.mk (idxGrp A c l w hr g lb eg f hp q hq)
  clear hr hp h hq eg
  go_enter Try.func26, Try.ntmps26
  go_wp2_with (refine HCA.out.mono ?_; rintro e w' ⟨rfl, hb'⟩)
  go_ret
  exact ⟨rfl, hb'⟩
def in_one (k : Nat) (user group : ByteArray) (x : S36) : Option Bool := if (x.f0.toList == group.toList) = true then slices_Contains_string_string.f k x.f1 user else some false
set_option maxHeartbeats 4000000 in
theorem in_lit (k : Nat) (x : S36) (A1 : Option Addr) (c1 : Nat) (user group : ByteArray) (b : Bool) (gu gg : Nat) (W : World) (hr : Kd.C Kd.string W A1 x.f1.length x.f1) (hc : x.f1.length ≤ c1)
    (hu : W.heap[gu]? = some (.cells #[.string user] 9 (0, 0))) (hg : W.heap[gg]? = some (.cells #[.string group] 9 (0, 0))) (h : in_one k user group x = some b) :
    Calls Try.prog 27 #[.agg #[.string x.f0, .slice A1 x.f1.length c1], .pointer (some ⟨gg, 0, none⟩), .pointer (some ⟨gu, 0, none⟩)] W fun e w' => e = .returned (.bool b) ∧ Below W.heap.size W w' := by
  have hu36 := Try.underlying36
  have HU := Aside0.mk hu
  have HG := Aside0.mk hg
  have HR := Aside0.mk hr
  have HC := Aside0.mk hc
  have HB := Aside0.mk (Below.refl W.heap.size W)
  clear hr hc hu hg
  unfold in_one at h
  have key : ∀ (w4 : World), Below W.heap.size W w4 → w4.cell? ⟨gu, 0, none⟩ = some (.string user) ∧ w4.cell? ⟨gg, 0, none⟩ = some (.string group) := by
    intro w4 hb
    have a := (Array.getElem?_eq_some_iff.1 HU.out).1
    have b := (Array.getElem?_eq_some_iff.1 HG.out).1
    constructor
    · simp only [World.cell?, hb.block gu a, HU.out]; rfl
    · simp only [World.cell?, hb.block gg b, HG.out]; rfl
  by_cases c5 : (x.f0.toList == group.toList) = true
  · rw [if_pos c5] at h
    have HCA := fun w2 hq => slices_Contains_string_string.calls k A1 c1 x.f1 user b w2 hq HC.out h
    have HK := Aside0.mk HCA
    clear HCA h
    go_enter Try.func27, Try.ntmps27
    go_wp2_with (first | ((with_reducible refine gate_dst (N := 3) rfl ?_); refine box_event ?hg (N := 3) ?hd (cs := #[.string x.f0, .slice A1 x.f1.length c1]) (t := 36) ?hr ?_; (case hd => rfl); (case hg => rfl); (case hr => first | (go_simp; done) | (go_simp; rfl)); intro gb hgb w4 hbox hb; obtain ⟨ku, kg⟩ := key w4 hb; have hc0 : w4.cell? ⟨gb, 0, none⟩ = some (.string x.f0) := (blk_cell hbox 0).trans rfl; have hc1 : w4.cell? ⟨gb, 1, none⟩ = some (.slice A1 x.f1.length c1) := (blk_cell hbox 1).trans rfl; have HB4 := Aside0.mk hb; have BX := Aside0.mk hbox; clear hb hbox hgb key) | (refine (HK.out _ (Kd.C_below HR.out HB4.out)).mono ?_; rintro e w' ⟨rfl, hb'⟩))
    go_ret
    exact ⟨rfl, HB4.out.trans ((Drawn0.below hb').mono HB4.out.size)⟩
  · rw [if_neg c5] at h
    obtain rfl := Option.some.inj h
    have c5' : (x.f0.toList == group.toList) = false := by simpa using c5
    clear h c5
    go_enter Try.func27, Try.ntmps27
    go_wp2_with (first | ((with_reducible refine gate_dst (N := 3) rfl ?_); refine box_event ?hg (N := 3) ?hd (cs := #[.string x.f0, .slice A1 x.f1.length c1]) (t := 36) ?hr ?_; (case hd => rfl); (case hg => rfl); (case hr => first | (go_simp; done) | (go_simp; rfl)); intro gb hgb w4 hbox hb; obtain ⟨ku, kg⟩ := key w4 hb; have hc0 : w4.cell? ⟨gb, 0, none⟩ = some (.string x.f0) := (blk_cell hbox 0).trans rfl; have hc1 : w4.cell? ⟨gb, 1, none⟩ = some (.slice A1 x.f1.length c1) := (blk_cell hbox 1).trans rfl; have HB4 := Aside0.mk hb; have BX := Aside0.mk hbox; clear hb hbox hgb key))
    go_ret
    exact ⟨rfl, HB4.out⟩

def glob_In.f (k : Nat) (l0_0 : List ByteArray) (l0_1 : List ByteArray) (l0_2 : List ByteArray) (l0_3 : List (S36)) (l0_4 : List (S34)) (l0_5 : List (S51)) (a1 : ByteArray) (a2 : ByteArray) : Option Bool := anyO (in_one k a1 a2) l0_3
theorem glob_In.mono : ∀ l0_0 l0_1 l0_2 l0_3 l0_4 l0_5 a1 a2 k, LeO (glob_In.f k l0_0 l0_1 l0_2 l0_3 l0_4 l0_5 a1 a2) (glob_In.f (k + 1) l0_0 l0_1 l0_2 l0_3 l0_4 l0_5 a1 a2) := fun _ _ _ l3 _ _ a1 a2 k =>
  anyO_mono (fun x => LeO.ite (slices_Contains_string_string.mono _ _ _) (LeO.refl _)) l3
set_option maxHeartbeats 4000000 in
theorem glob_In.core (k : Nat) (A0_0 : Option Addr) (c0_0 : Nat) (l0_0 : List ByteArray) (A0_1 : Option Addr) (c0_1 : Nat) (l0_1 : List ByteArray) (A0_2 : Option Addr) (c0_2 : Nat) (l0_2 : List ByteArray) (A0_3 : Option Addr) (c0_3 : Nat) (l0_3 : List (S36)) (A0_4 : Option Addr) (c0_4 : Nat) (l0_4 : List (S34)) (A0_5 : Option Addr) (c0_5 : Nat) (l0_5 : List (S51)) (a1 : ByteArray) (a2 : ByteArray) (r : Bool) (w : World) (hr0_3 : Kd.C k36 w A0_3 l0_3.length l0_3) (hc0_3 : l0_3.length ≤ c0_3) (h : glob_In.f k l0_0 l0_1 l0_2 l0_3 l0_4 l0_5 a1 a2 = some r) :
    Calls Try.prog 10 #[.agg #[.slice A0_0 l0_0.length c0_0, .slice A0_1 l0_1.length c0_1, .slice A0_2 l0_2.length c0_2, .slice A0_3 l0_3.length c0_3, .slice A0_4 l0_4.length c0_4, .slice A0_5 l0_5.length c0_5], .string a1, .string a2] w fun e w' => e = .returned (.bool r) ∧ Below w.heap.size w w' := by
  have hu28 := Try.underlying28
  have HR := Aside0.mk hr0_3
  have HC := Aside0.mk hc0_3
  have H := Aside0.mk h
  have HB := Aside0.mk (Below.refl w.heap.size w)
  clear hr0_3 hc0_3 h
  go_enter Try.func10, Try.ntmps10
  go_wp2_with (first | ((with_reducible refine gate_dst (N := 3) rfl ?_); refine box_event ?hg (N := 3) ?hd (cs := #[.slice A0_0 l0_0.length c0_0, .slice A0_1 l0_1.length c0_1, .slice A0_2 l0_2.length c0_2, .slice A0_3 l0_3.length c0_3, .slice A0_4 l0_4.length c0_4, .slice A0_5 l0_5.length c0_5]) (t := 28) ?hr ?_; (case hd => rfl); (case hg => rfl); (case hr => first | (go_simp; done) | (go_simp; rfl)); intro gp hgp w4 hbox hb; have hc3 : ((w4.alloc (Obj.cells #[Value.string a1] 9)).alloc (Obj.cells #[Value.string a2] 9)).cell? ⟨gp, 3, none⟩ = some (.slice A0_3 l0_3.length c0_3) := (blk_cell (blk_alloc (blk_alloc hbox _) _) 3).trans rfl; have B4 := Aside0.mk hb; clear hbox hb hgp))
  have hsz1 : (w4.alloc (Obj.cells #[Value.string a1] 9)).heap.size = w4.heap.size + 1 := by
    show (w4.heap.push _).size = _
    rw [Array.size_push]
  have hlu : w4.heap.size < ((w4.alloc (Obj.cells #[Value.string a1] 9)).alloc (Obj.cells #[Value.string a2] 9)).heap.size := by
    show _ < ((w4.heap.push _).push _).size
    rw [Array.size_push, Array.size_push]; omega
  have hlg : w4.heap.size + 1 < ((w4.alloc (Obj.cells #[Value.string a1] 9)).alloc (Obj.cells #[Value.string a2] 9)).heap.size := by
    show _ < ((w4.heap.push _).push _).size
    rw [Array.size_push, Array.size_push]; omega
  have hbu : ((w4.alloc (Obj.cells #[Value.string a1] 9)).alloc (Obj.cells #[Value.string a2] 9)).heap[w4.heap.size]? = some (.cells #[.string a1] 9 (0, 0)) := blk_alloc (blk_new _ _) _
  have hbg : ((w4.alloc (Obj.cells #[Value.string a1] 9)).alloc (Obj.cells #[Value.string a2] 9)).heap[w4.heap.size + 1]? = some (.cells #[.string a2] 9 (0, 0)) := by rw [← hsz1]; exact blk_new _ _
  have hB2 : Below w.heap.size w ((w4.alloc (Obj.cells #[Value.string a1] 9)).alloc (Obj.cells #[Value.string a2] 9)) := below_alloc (below_alloc B4.out _) _
  refine (anyGrp A0_3 c0_3 l0_3 _ (Kd.C_below HR.out hB2) 27 #[.pointer (some ⟨w4.heap.size + 1, 0, none⟩), .pointer (some ⟨w4.heap.size, 0, none⟩)] (fun args w => by rfl) (in_one k a1 a2)
    (fun W x b A1 c1 hx hB hr hc => (in_lit k x A1 c1 a1 a2 b w4.heap.size (w4.heap.size + 1) W hr hc (by rw [hB.block _ hlu]; exact hbu) (by rw [hB.block _ hlg]; exact hbg) hx).mono fun e w' hh => ⟨hh.1, hB.trans (hh.2.mono hB.size)⟩) r H.out).mono ?_
  rintro e w' ⟨rfl, hb'⟩
  have HE := Aside0.mk (hB2.trans (hb'.mono hB2.size))
  clear hlu hlg hbu hbg hB2 hb' hc3 hsz1
  go_wp2
  go_ret
  exact ⟨rfl, HE.out⟩
theorem glob_In.calls (k : Nat) (A0_0 : Option Addr) (c0_0 : Nat) (l0_0 : List ByteArray) (A0_1 : Option Addr) (c0_1 : Nat) (l0_1 : List ByteArray) (A0_2 : Option Addr) (c0_2 : Nat) (l0_2 : List ByteArray) (A0_3 : Option Addr) (c0_3 : Nat) (l0_3 : List (S36)) (A0_4 : Option Addr) (c0_4 : Nat) (l0_4 : List (S34)) (A0_5 : Option Addr) (c0_5 : Nat) (l0_5 : List (S51)) (a1 : ByteArray) (a2 : ByteArray) (r : Bool) (w : World) (hr0_0 : Kd.C Kd.string w A0_0 l0_0.length l0_0) (hc0_0 : l0_0.length ≤ c0_0) (hr0_1 : Kd.C Kd.string w A0_1 l0_1.length l0_1) (hc0_1 : l0_1.length ≤ c0_1) (hr0_2 : Kd.C Kd.string w A0_2 l0_2.length l0_2) (hc0_2 : l0_2.length ≤ c0_2) (hr0_3 : Kd.C k36 w A0_3 l0_3.length l0_3) (hc0_3 : l0_3.length ≤ c0_3) (hr0_4 : Kd.C k34 w A0_4 l0_4.length l0_4) (hc0_4 : l0_4.length ≤ c0_4) (hr0_5 : Kd.C k51 w A0_5 l0_5.length l0_5) (hc0_5 : l0_5.length ≤ c0_5) (h : glob_In.f k l0_0 l0_1 l0_2 l0_3 l0_4 l0_5 a1 a2 = some r) :
    Calls Try.prog 10 #[.agg #[.slice A0_0 l0_0.length c0_0, .slice A0_1 l0_1.length c0_1, .slice A0_2 l0_2.length c0_2, .slice A0_3 l0_3.length c0_3, .slice A0_4 l0_4.length c0_4, .slice A0_5 l0_5.length c0_5], .string a1, .string a2] w fun e w' => e = .returned (.bool r) ∧ Below w.heap.size w w' := glob_In.core k _ _ l0_0 _ _ l0_1 _ _ l0_2 A0_3 c0_3 l0_3 _ _ l0_4 _ _ l0_5 a1 a2 r w hr0_3 hc0_3 h

end Go.Proofs.Ytppndhbeglcioaa.GA
