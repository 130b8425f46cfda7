-- Written by gprint.py, a program of this session's: the kit's printer over contracts that were proved by hand. Lean checks it.
import Derived.Test.YtppndhbeglcioaaCutB
import Derived.Test.YtppndhbeglcioaaGAx2
import Derived.Test.YtppndhbeglcioaaGAx9
import Derived.Test.YtppndhbeglcioaaGAx10
import Derived.Lib.Walk
import Derived.Deep.DeepMust
namespace Go.Proofs.Ytppndhbeglcioaa.GA
open Go.RowKit Go.Proofs.YtppndhbeglcioaaW.PrintWords Go.Proofs.YtppndhbeglcioaaW.PrintLast Go.Proofs.YtppndhbeglcioaaW.PrintMore
attribute [local go_sem] max2_int min2_int max_two min_two max_three min_three max_four min_four   -- for this text's walks alone
set_option linter.unusedVariables false
set_option linter.unusedSimpArgs false

/-! ### glob_bears: function 24 -/
-- @own Derived.Lib.Walk Derived.Deep.DeepMust
/-! ### entail/glob.bears -/
set_option maxHeartbeats 4000000 in
theorem bears_lit (k : Nat) (A0_0 : Option Addr) (c0_0 : Nat) (l0_0 : List ByteArray) (A0_1 : Option Addr) (c0_1 : Nat) (l0_1 : List ByteArray) (A0_2 : Option Addr) (c0_2 : Nat) (l0_2 : List ByteArray) (A0_3 : Option Addr) (c0_3 : Nat) (l0_3 : List (S36)) (A0_4 : Option Addr) (c0_4 : Nat) (l0_4 : List (S34)) (A0_5 : Option Addr) (c0_5 : Nat) (l0_5 : List (S51)) (user x : ByteArray) (b : Bool) (gp gu : Nat) (W : World) (hr0_3 : Kd.C k36 W A0_3 l0_3.length l0_3) (hc0_3 : l0_3.length ≤ c0_3)
    (hp : W.heap[gp]? = some (.cells #[.slice A0_0 l0_0.length c0_0, .slice A0_1 l0_1.length c0_1, .slice A0_2 l0_2.length c0_2, .slice A0_3 l0_3.length c0_3, .slice A0_4 l0_4.length c0_4, .slice A0_5 l0_5.length c0_5] 28 (0, 0))) (hu : W.heap[gu]? = some (.cells #[.string user] 9 (0, 0))) (h : glob_In.f k l0_0 l0_1 l0_2 l0_3 l0_4 l0_5 user x = some b) :
    Calls Try.prog 38 #[.string x, .pointer (some ⟨gp, 0, none⟩), .pointer (some ⟨gu, 0, none⟩)] W fun e w' => e = .returned (.bool b) ∧ Below W.heap.size W w' := by
  have hu28 := Try.underlying28
  have hcu : W.cell? ⟨gu, 0, none⟩ = some (.string user) := (blk_cell hu 0).trans rfl
  have hcp0 : W.cell? ⟨gp, 0, none⟩ = some (.slice A0_0 l0_0.length c0_0) := (blk_cell hp 0).trans rfl
  have hcp1 : W.cell? ⟨gp, 1, none⟩ = some (.slice A0_1 l0_1.length c0_1) := (blk_cell hp 1).trans rfl
  have hcp2 : W.cell? ⟨gp, 2, none⟩ = some (.slice A0_2 l0_2.length c0_2) := (blk_cell hp 2).trans rfl
  have hcp3 : W.cell? ⟨gp, 3, none⟩ = some (.slice A0_3 l0_3.length c0_3) := (blk_cell hp 3).trans rfl
  have hcp4 : W.cell? ⟨gp, 4, none⟩ = some (.slice A0_4 l0_4.length c0_4) := (blk_cell hp 4).trans rfl
  have hcp5 : W.cell? ⟨gp, 5, none⟩ = some (.slice A0_5 l0_5.length c0_5) := (blk_cell hp 5).trans rfl
  have HCA := Aside0.mk (glob_In.core k A0_0 c0_0 l0_0 A0_1 c0_1 l0_1 A0_2 c0_2 l0_2 A0_3 c0_3 l0_3 A0_4 c0_4 l0_4 A0_5 c0_5 l0_5 user x b W hr0_3 hc0_3 h)
  clear hr0_3 hc0_3 h hp hu
  go_enter Try.func38, Try.ntmps38
  go_wp2_with (refine HCA.out.mono ?_; rintro e w' ⟨rfl, hb'⟩)
  go_ret
  exact ⟨rfl, hb'⟩
def bears_who (k : Nat) (l0_0 : List ByteArray) (l0_1 : List ByteArray) (l0_2 : List ByteArray) (l0_3 : List (S36)) (l0_4 : List (S34)) (l0_5 : List (S51)) (l1_2 l1_3 : List ByteArray) (a2 : ByteArray) : Option Bool :=
  (slices_Contains_string_string.f k l1_2 a2).bind fun t => if t = true then some true else anyO (fun g => glob_In.f k l0_0 l0_1 l0_2 l0_3 l0_4 l0_5 a2 g) l1_3
def glob_bears.f (k : Nat) (l0_0 : List ByteArray) (l0_1 : List ByteArray) (l0_2 : List ByteArray) (l0_3 : List (S36)) (l0_4 : List (S34)) (l0_5 : List (S51)) (a1_0 : ByteArray) (a1_1 : Bool) (l1_2 l1_3 l1_4 l1_5 : List ByteArray) (a2 a3 a4 : ByteArray) : Option Bool :=
  (bears_who k l0_0 l0_1 l0_2 l0_3 l0_4 l0_5 l1_2 l1_3 a2).bind fun t => if t = true then (glob_matches.f l1_4 a3).bind fun m => (if m = true then glob_matches.f l1_5 a4 else some false) else some false
theorem glob_bears.mono : ∀ l0_0 l0_1 l0_2 l0_3 l0_4 l0_5 a1_0 a1_1 l1_2 l1_3 l1_4 l1_5 a2 a3 a4 k, LeO (glob_bears.f k l0_0 l0_1 l0_2 l0_3 l0_4 l0_5 a1_0 a1_1 l1_2 l1_3 l1_4 l1_5 a2 a3 a4) (glob_bears.f (k + 1) l0_0 l0_1 l0_2 l0_3 l0_4 l0_5 a1_0 a1_1 l1_2 l1_3 l1_4 l1_5 a2 a3 a4) := fun _ _ _ _ _ _ _ _ _ _ _ _ _ _ _ k => by
  unfold glob_bears.f bears_who
  exact LeO.bind (LeO.bind (slices_Contains_string_string.mono _ _ _) (fun t => LeO.ite (LeO.refl _) (anyO_mono (fun g => glob_In.mono _ _ _ _ _ _ _ _ _) _))) (fun t => LeO.refl _)
set_option maxHeartbeats 8000000 in
theorem glob_bears.core (k : Nat) (A0_0 : Option Addr) (c0_0 : Nat) (l0_0 : List ByteArray) (A0_1 : Option Addr) (c0_1 : Nat) (l0_1 : List ByteArray) (A0_2 : Option Addr) (c0_2 : Nat) (l0_2 : List ByteArray) (A0_3 : Option Addr) (c0_3 : Nat) (l0_3 : List (S36)) (A0_4 : Option Addr) (c0_4 : Nat) (l0_4 : List (S34)) (A0_5 : Option Addr) (c0_5 : Nat) (l0_5 : List (S51)) (a1_0 : ByteArray) (a1_1 : Bool) (A1_2 : Option Addr) (c1_2 : Nat) (l1_2 : List ByteArray) (A1_3 : Option Addr) (c1_3 : Nat) (l1_3 : List ByteArray) (A1_4 : Option Addr) (c1_4 : Nat) (l1_4 : List ByteArray) (A1_5 : Option Addr) (c1_5 : Nat) (l1_5 : List ByteArray) (a2 a3 a4 : ByteArray) (r : Bool) (w : World)
    (hr0_3 : Kd.C k36 w A0_3 l0_3.length l0_3) (hc0_3 : l0_3.length ≤ c0_3) (hr1_2 : Kd.C Kd.string w A1_2 l1_2.length l1_2) (hc1_2 : l1_2.length ≤ c1_2) (hr1_3 : Kd.C Kd.string w A1_3 l1_3.length l1_3) (hc1_3 : l1_3.length ≤ c1_3) (hr1_4 : Kd.C Kd.string w A1_4 l1_4.length l1_4) (hc1_4 : l1_4.length ≤ c1_4) (hr1_5 : Kd.C Kd.string w A1_5 l1_5.length l1_5) (hc1_5 : l1_5.length ≤ c1_5)
    (h : glob_bears.f k l0_0 l0_1 l0_2 l0_3 l0_4 l0_5 a1_0 a1_1 l1_2 l1_3 l1_4 l1_5 a2 a3 a4 = some r) :
    Calls Try.prog 24 #[.agg #[.slice A0_0 l0_0.length c0_0, .slice A0_1 l0_1.length c0_1, .slice A0_2 l0_2.length c0_2, .slice A0_3 l0_3.length c0_3, .slice A0_4 l0_4.length c0_4, .slice A0_5 l0_5.length c0_5], .agg #[.string a1_0, .bool a1_1, .slice A1_2 l1_2.length c1_2, .slice A1_3 l1_3.length c1_3, .slice A1_4 l1_4.length c1_4, .slice A1_5 l1_5.length c1_5], .string a2, .string a3, .string a4] w fun e w' => e = .returned (.bool r) ∧ Below w.heap.size w w' := by
  have hu28 := Try.underlying28
  have hu34 := Try.underlying34
  have HR := Aside0.mk hr0_3
  have HC := Aside0.mk hc0_3
  have HR2 := Aside0.mk hr1_2
  have HC2 := Aside0.mk hc1_2
  have HR3 := Aside0.mk hr1_3
  have HC3 := Aside0.mk hc1_3
  have HR4 := Aside0.mk hr1_4
  have HC4 := Aside0.mk hc1_4
  have HR5 := Aside0.mk hr1_5
  have HC5 := Aside0.mk hc1_5
  have H := Aside0.mk h
  clear hr0_3 hc0_3 hr1_2 hc1_2 hr1_3 hc1_3 hr1_4 hc1_4 hr1_5 hc1_5 h
  go_enter Try.func24, Try.ntmps24
  go_upto_region 1 with (first | ((with_reducible refine gate_dst (N := 5) rfl ?_); refine box_event ?hg (N := 5) ?hd (cs := #[.slice A0_0 l0_0.length c0_0, .slice A0_1 l0_1.length c0_1, .slice A0_2 l0_2.length c0_2, .slice A0_3 l0_3.length c0_3, .slice A0_4 l0_4.length c0_4, .slice A0_5 l0_5.length c0_5]) (t := 28) ?hr ?_; (case hd => rfl); (case hg => rfl); (case hr => first | (go_simp; done) | (go_simp; rfl)); intro gp hgp w4 hbox hb; have BP := Aside0.mk hbox; have B4 := Aside0.mk hb; clear hbox hb hgp) | ((with_reducible refine gate_dst (N := 6) rfl ?_); refine box_event ?hg (N := 6) ?hd (cs := #[.string a1_0, .bool a1_1, .slice A1_2 l1_2.length c1_2, .slice A1_3 l1_3.length c1_3, .slice A1_4 l1_4.length c1_4, .slice A1_5 l1_5.length c1_5]) (t := 34) ?hr ?_; (case hd => rfl); (case hg => rfl); (case hr => first | (go_simp; done) | (go_simp; rfl)); intro gs hgs w5 hbox hb; have BS := Aside0.mk hbox; have B5 := Aside0.mk hb; clear hbox hb hgs))
  have BU6 := Aside0.mk (blk_new w5 (Obj.cells #[Value.string a2] 9))
  have BS6 := Aside0.mk (blk_alloc BS.out (Obj.cells #[Value.string a2] 9))
  have BP6 := Aside0.mk (blk_alloc (blk_below BP.out B5.out) (Obj.cells #[Value.string a2] 9))
  have B6 := Aside0.mk (below_alloc (B4.out.trans (B5.out.mono B4.out.size)) (Obj.cells #[Value.string a2] 9))
  clear BP BS B4 B5
  generalize w5.alloc (Obj.cells #[Value.string a2] 9) = w6 at *
  generalize w5.heap.size = gu at *
  have cs : ∀ W, Below w6.heap.size w6 W → W.cell? ⟨gs, 2, none⟩ = some (.slice A1_2 l1_2.length c1_2) ∧ W.cell? ⟨gs, 3, none⟩ = some (.slice A1_3 l1_3.length c1_3) ∧ W.cell? ⟨gs, 4, none⟩ = some (.slice A1_4 l1_4.length c1_4) ∧ W.cell? ⟨gs, 5, none⟩ = some (.slice A1_5 l1_5.length c1_5) ∧ W.cell? ⟨gu, 0, none⟩ = some (.string a2) := fun W hb =>
    ⟨(blk_cell (blk_below BS6.out hb) 2).trans rfl, (blk_cell (blk_below BS6.out hb) 3).trans rfl, (blk_cell (blk_below BS6.out hb) 4).trans rfl, (blk_cell (blk_below BS6.out hb) 5).trans rfl, (blk_cell (blk_below BU6.out hb) 0).trans rfl⟩
  obtain ⟨d2, d3, d4, d5, du⟩ := cs w6 (Below.refl _ _)
  have CS := Aside0.mk cs
  clear cs d4 d5
  have H0 := H.out
  clear H
  unfold glob_bears.f at H0
  obtain ⟨t, Ht, H2⟩ := Option.bind_eq_some_iff.1 H0
  clear H0
  unfold bears_who at Ht
  obtain ⟨c, Hc, Ht2⟩ := Option.bind_eq_some_iff.1 Ht
  clear Ht
  have K1 := Aside0.mk (fun w2 hq => slices_Contains_string_string.calls k A1_2 c1_2 l1_2 a2 c w2 hq HC2.out Hc)
  clear Hc
  have R2 := Aside0.mk (Kd.C_below HR2.out B6.out)
  have H2' := Aside0.mk H2
  clear H2
  have tail : ∀ (m : Bool), (glob_matches.f l1_4 a3) = some m → ∀ W, Below w6.heap.size w6 W → Calls Try.prog 31 #[.slice A1_4 l1_4.length c1_4, .string a3] W fun e w' => e = .returned (.bool m) ∧ Below W.heap.size W w' := fun m hm W hb =>
    glob_matches.calls A1_4 c1_4 l1_4 a3 m W (Kd.C_below (Kd.C_below HR4.out B6.out) hb) HC4.out hm
  have tail5 : ∀ (m : Bool), (glob_matches.f l1_5 a4) = some m → ∀ W, Below w6.heap.size w6 W → Calls Try.prog 31 #[.slice A1_5 l1_5.length c1_5, .string a4] W fun e w' => e = .returned (.bool m) ∧ Below W.heap.size W w' := fun m hm W hb =>
    glob_matches.calls A1_5 c1_5 l1_5 a4 m W (Kd.C_below (Kd.C_below HR5.out B6.out) hb) HC5.out hm
  have T4 := Aside0.mk tail
  have T5 := Aside0.mk tail5
  clear tail tail5
  cases c with
  | true =>
    obtain rfl : true = t := Option.some.inj (show some true = some t from Ht2)
    clear Ht2
    have H2 := H2'.out
    clear H2'
    obtain ⟨m, Hm, H3⟩ := Option.bind_eq_some_iff.1 (show ((glob_matches.f l1_4 a3).bind fun m => (if m = true then glob_matches.f l1_5 a4 else some false)) = some r from H2)
    clear H2
    have T4m := Aside0.mk (T4.out m Hm)
    clear T4 Hm
    go_upto_region 2 with (refine (K1.out _ R2.out).mono ?_; rintro e w' ⟨rfl, hd⟩; have B7 := Aside0.mk (Drawn0.below hd); obtain ⟨_, _, d4, _, _⟩ := CS.out w' B7.out; clear hd)
    cases m with
    | true =>
      have T5m := Aside0.mk (T5.out r (show glob_matches.f l1_5 a4 = some r from H3))
      clear T5 H3
      go_wp2_with (first | (refine (T4m.out _ B7.out).mono ?_; rintro e w2 ⟨rfl, hd⟩; have B8 := Aside0.mk (B7.out.trans (hd.mono B7.out.size)); obtain ⟨_, _, _, d5, _⟩ := CS.out w2 B8.out; clear hd) | (refine (T5m.out _ B8.out).mono ?_; rintro e w3 ⟨rfl, hd⟩; have B9 := Aside0.mk (B8.out.trans (hd.mono B8.out.size)); clear hd))
      go_ret
      exact ⟨rfl, B6.out.trans (B9.out.mono B6.out.size)⟩
    | false =>
      obtain rfl : false = r := Option.some.inj (show some false = some r from H3)
      clear H3
      go_wp2_with (first | (refine (T4m.out _ B7.out).mono ?_; rintro e w2 ⟨rfl, hd⟩; have B8 := Aside0.mk (B7.out.trans (hd.mono B7.out.size)); clear hd))
      go_ret
      exact ⟨rfl, B6.out.trans (B8.out.mono B6.out.size)⟩
  | false =>
    have Ht3 := Aside0.mk (show anyO (fun g => glob_In.f k l0_0 l0_1 l0_2 l0_3 l0_4 l0_5 a2 g) l1_3 = some t from Ht2)
    clear Ht2
    have K2 : ∀ W, Below w6.heap.size w6 W → Calls Try.prog 37 #[.slice A1_3 l1_3.length c1_3, .func (.func 38) #[] #[.pointer (some ⟨gp, 0, none⟩), .pointer (some ⟨gu, 0, none⟩)]] W fun e w' => e = .returned (.bool t) ∧ Below W.heap.size W w' := fun W hb =>
      anyStr A1_3 c1_3 l1_3 W (Kd.C_below (Kd.C_below HR3.out B6.out) hb) 38 #[.pointer (some ⟨gp, 0, none⟩), .pointer (some ⟨gu, 0, none⟩)] (fun args w => by rfl) (fun g => glob_In.f k l0_0 l0_1 l0_2 l0_3 l0_4 l0_5 a2 g)
        (fun W2 x b hm hx hB => (bears_lit k A0_0 c0_0 l0_0 A0_1 c0_1 l0_1 A0_2 c0_2 l0_2 A0_3 c0_3 l0_3 A0_4 c0_4 l0_4 A0_5 c0_5 l0_5 a2 x b gp gu W2 (Kd.C_below (Kd.C_below (Kd.C_below HR.out B6.out) hb) hB) HC.out (blk_below (blk_below BP6.out hb) hB) (blk_below (blk_below BU6.out hb) hB) hx).mono fun e w' hh => ⟨hh.1, hB.trans (hh.2.mono hB.size)⟩) t Ht3.out
    have K2' := Aside0.mk K2
    clear K2 Ht3
    go_upto_region 2 with (first | (refine (K1.out _ R2.out).mono ?_; rintro e w' ⟨rfl, hd⟩; have B7 := Aside0.mk (Drawn0.below hd); obtain ⟨_, d3b, _, _, _⟩ := CS.out w' B7.out; clear hd) | (refine (K2'.out _ B7.out).mono ?_; rintro e w1 ⟨rfl, hd⟩; have B7b := Aside0.mk (B7.out.trans (hd.mono B7.out.size)); obtain ⟨_, _, d4, _, _⟩ := CS.out w1 B7b.out; clear hd))
    cases t with
    | true =>
      have H2 := H2'.out
      clear H2'
      obtain ⟨m, Hm, H3⟩ := Option.bind_eq_some_iff.1 (show ((glob_matches.f l1_4 a3).bind fun m => (if m = true then glob_matches.f l1_5 a4 else some false)) = some r from H2)
      clear H2
      have T4m := Aside0.mk (T4.out m Hm)
      clear T4 Hm
      cases m with
      | true =>
        have T5m := Aside0.mk (T5.out r (show glob_matches.f l1_5 a4 = some r from H3))
        clear T5 H3
        go_wp2_with (first | (refine (T4m.out _ B7b.out).mono ?_; rintro e w2 ⟨rfl, hd⟩; have B8 := Aside0.mk (B7b.out.trans (hd.mono B7b.out.size)); obtain ⟨_, _, _, d5, _⟩ := CS.out w2 B8.out; clear hd) | (refine (T5m.out _ B8.out).mono ?_; rintro e w3 ⟨rfl, hd⟩; have B9 := Aside0.mk (B8.out.trans (hd.mono B8.out.size)); clear hd))
        go_ret
        exact ⟨rfl, B6.out.trans (B9.out.mono B6.out.size)⟩
      | false =>
        obtain rfl : false = r := Option.some.inj (show some false = some r from H3)
        clear H3
        go_wp2_with (first | (refine (T4m.out _ B7b.out).mono ?_; rintro e w2 ⟨rfl, hd⟩; have B8 := Aside0.mk (B7b.out.trans (hd.mono B7b.out.size)); clear hd))
        go_ret
        exact ⟨rfl, B6.out.trans (B8.out.mono B6.out.size)⟩
    | false =>
      obtain rfl : false = r := Option.some.inj (show some false = some r from H2'.out)
      clear H2' T4 T5
      go_wp2
      go_ret
      exact ⟨rfl, B6.out.trans (B7b.out.mono B6.out.size)⟩
/-- (f hangs on the statement's Deny in nothing: whatever stands there.) -/
theorem glob_bears.calls {b1_ : Bool} (k : Nat) (A0_0 : Option Addr) (c0_0 : Nat) (l0_0 : List ByteArray) (A0_1 : Option Addr) (c0_1 : Nat) (l0_1 : List ByteArray) (A0_2 : Option Addr) (c0_2 : Nat) (l0_2 : List ByteArray) (A0_3 : Option Addr) (c0_3 : Nat) (l0_3 : List (S36)) (A0_4 : Option Addr) (c0_4 : Nat) (l0_4 : List (S34)) (A0_5 : Option Addr) (c0_5 : Nat) (l0_5 : List (S51)) (a1_0 : ByteArray) (a1_1 : Bool) (A1_2 : Option Addr) (c1_2 : Nat) (l1_2 : List ByteArray) (A1_3 : Option Addr) (c1_3 : Nat) (l1_3 : List ByteArray) (A1_4 : Option Addr) (c1_4 : Nat) (l1_4 : List ByteArray) (A1_5 : Option Addr) (c1_5 : Nat) (l1_5 : List ByteArray) (a2 : ByteArray) (a3 : ByteArray) (a4 : ByteArray) (r : Bool) (w : World) (hr0_0 : Kd.C Kd.string w A0_0 l0_0.length l0_0) (hc0_0 : l0_0.length ≤ c0_0) (hr0_1 : Kd.C Kd.string w A0_1 l0_1.length l0_1) (hc0_1 : l0_1.length ≤ c0_1) (hr0_2 : Kd.C Kd.string w A0_2 l0_2.length l0_2) (hc0_2 : l0_2.length ≤ c0_2) (hr0_3 : Kd.C k36 w A0_3 l0_3.length l0_3) (hc0_3 : l0_3.length ≤ c0_3) (hr0_4 : Kd.C k34 w A0_4 l0_4.length l0_4) (hc0_4 : l0_4.length ≤ c0_4) (hr0_5 : Kd.C k51 w A0_5 l0_5.length l0_5) (hc0_5 : l0_5.length ≤ c0_5) (hr1_2 : Kd.C Kd.string w A1_2 l1_2.length l1_2) (hc1_2 : l1_2.length ≤ c1_2) (hr1_3 : Kd.C Kd.string w A1_3 l1_3.length l1_3) (hc1_3 : l1_3.length ≤ c1_3) (hr1_4 : Kd.C Kd.string w A1_4 l1_4.length l1_4) (hc1_4 : l1_4.length ≤ c1_4) (hr1_5 : Kd.C Kd.string w A1_5 l1_5.length l1_5) (hc1_5 : l1_5.length ≤ c1_5)
    (h : glob_bears.f k l0_0 l0_1 l0_2 l0_3 l0_4 l0_5 a1_0 b1_ l1_2 l1_3 l1_4 l1_5 a2 a3 a4 = some r) :
    Calls Try.prog 24 #[.agg #[.slice A0_0 l0_0.length c0_0, .slice A0_1 l0_1.length c0_1, .slice A0_2 l0_2.length c0_2, .slice A0_3 l0_3.length c0_3, .slice A0_4 l0_4.length c0_4, .slice A0_5 l0_5.length c0_5], .agg #[.string a1_0, .bool a1_1, .slice A1_2 l1_2.length c1_2, .slice A1_3 l1_3.length c1_3, .slice A1_4 l1_4.length c1_4, .slice A1_5 l1_5.length c1_5], .string a2, .string a3, .string a4] w fun e w' => e = .returned (.bool r) ∧ Below w.heap.size w w' :=
  glob_bears.core k _ _ l0_0 _ _ l0_1 _ _ l0_2 A0_3 c0_3 l0_3 _ _ l0_4 _ _ l0_5 a1_0 a1_1 A1_2 c1_2 l1_2 A1_3 c1_3 l1_3 A1_4 c1_4 l1_4 A1_5 c1_5 l1_5 a2 a3 a4 r w hr0_3 hc0_3 hr1_2 hc1_2 hr1_3 hc1_3 hr1_4 hc1_4 hr1_5 hc1_5 h

end Go.Proofs.Ytppndhbeglcioaa.GA
