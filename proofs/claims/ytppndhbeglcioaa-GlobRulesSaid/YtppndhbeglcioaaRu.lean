/- GlobRules, walked through its code: given what Made, Ask, May and awake answer, it answers true; conditions: the policies that Made gives are of few rows. -/
import Derived.Test.YtppndhbeglcioaaMadeV
import Derived.Test.YtppndhbeglcioaaSm
import Derived.Test.YtppndhbeglcioaaCutM
import Derived.Test.YtppndhbeglcioaaGAx10
import Derived.Test.YtppndhbeglcioaaGAx13
import Derived.Test.YtppndhbeglcioaaGAx17
import Derived.Test.YtppndhbeglcioaaGAx25
import Derived.Lib.Walk
import Derived.Deep.DeepMust
namespace Go.Proofs.Ytppndhbeglcioaa.GA
open Go.RowKit Go.Proofs.YtppndhbeglcioaaW.PrintWords Go.Proofs.YtppndhbeglcioaaW.PrintLast Go.Proofs.YtppndhbeglcioaaW.PrintMore
set_option linter.unusedVariables false
set_option linter.unusedSimpArgs false
theorem V_open {α : Type} {d : Kd α} {e base : Nat} {W : World} {ok : Nat → Prop} {v : Value} {xs : List α} (h : Kd.V d e W base ok v xs) : ∃ A c, v = .slice A xs.length c ∧ xs.length ≤ c ∧ d.C W A xs.length xs := by
  obtain ⟨A, c, e, l, f⟩ := h
  exact ⟨A, c, e, l, Kd.F_now f⟩
theorem below_grown {w w1 : World} (h : w.grownBy w1 none) : Below w.heap.size w w1 := ⟨h.os, h.tape, h.output, h.size, fun k hk => h.block k hk (by simp)⟩
theorem heap34 : Kd.Heap k34 := Kd.heap_iso _ (Kd.heap_pair Kd.heap_string (Kd.heap_pair Kd.heap_bool (Kd.heap_pair (Kd.heap_slice 9 Kd.heap_string) (Kd.heap_pair (Kd.heap_slice 9 Kd.heap_string) (Kd.heap_pair (Kd.heap_slice 9 Kd.heap_string) (Kd.heap_slice 9 Kd.heap_string))))))
theorem heap51 : Kd.Heap k51 := Kd.heap_iso _ (Kd.heap_pair Kd.heap_string (Kd.heap_pair (Kd.heap_slice 9 Kd.heap_string) (Kd.heap_slice 9 Kd.heap_string)))
theorem Bc {b W : World} {p : Addr} {v : Value} (h : Below b.heap.size b W) (hv : b.cell? p = some v) : W.cell? p = some v := (h.cell (World.block_lt_of_cell? b p hv)).trans hv
def gu.T8 : Bool × List (List Nat × List Nat) := (true, [([], []), ([], []), ([1], [1]), ([0, 2], [0, 2]), ([], []), ([4], [4]), ([], []), ([5, 6], [5, 6]), ([7], [7]), ([8], [8]), ([3, 9, 3], [3, 9]), ([0, 1, 2, 3, 4, 5, 6, 7, 8, 9, 10], []), ([11, 10, 10, 0, 1, 2, 3, 4, 5, 6, 7, 8, 9, 10], [10, 11])])
def gu.B8 : List Nat := [0, 0, 2, 7, 0, 16, 0, 112, 240, 496, 1023, 2047, 4095]
theorem gu.tab8 : rtab .any (opsOf Try.f6 8) = gu.T8 := by kernel_rfl
theorem gu.bits8 : waitsOk gu.T8.2 gu.B8 = true := by kernel_rfl
def gu.T16 : Bool × List (List Nat × List Nat) := (true, [([], []), ([0], [0]), ([1], [1]), ([2, 1], [1, 2]), ([1], [1]), ([3, 4, 1], [1, 3, 4]), ([5, 1], [1, 5]), ([6, 1], [1, 6]), ([1], [1]), ([8, 1], [1, 8]), ([7, 9, 1], [1, 7, 9]), ([1, 10], [1, 10]), ([11, 1, 0, 1, 2, 3, 4, 5, 6, 7, 8, 9, 10, 11], [0, 11])])
def gu.B16 : List Nat := [0, 1, 3, 7, 3, 31, 63, 127, 3, 259, 1023, 2047, 4095]
theorem gu.tab16 : rtab .any (opsOf Try.f6 16) = gu.T16 := by kernel_rfl
theorem gu.bits16 : waitsOk gu.T16.2 gu.B16 = true := by kernel_rfl
def gu.T21 : Bool × List (List Nat × List Nat) := (true, [([], []), ([], []), ([1], [1]), ([0, 2], [0, 2]), ([], []), ([4], [4]), ([], []), ([5, 6], [5, 6]), ([7], [7]), ([8], [8]), ([3, 9, 3], [3, 9]), ([0, 1, 2, 3, 4, 5, 6, 7, 8, 9, 10], []), ([11, 10, 10, 0, 1, 2, 3, 4, 5, 6, 7, 8, 9, 10], [10, 11])])
def gu.B21 : List Nat := [0, 0, 2, 7, 0, 16, 0, 112, 240, 496, 1023, 2047, 4095]
theorem gu.tab21 : rtab .any (opsOf Try.f6 21) = gu.T21 := by kernel_rfl
theorem gu.bits21 : waitsOk gu.T21.2 gu.B21 = true := by kernel_rfl
def gu.T23 : Bool × List (List Nat × List Nat) := (true, [([], []), ([0], [0]), ([1], [1]), ([1, 2], [1, 2]), ([3, 1], [3]), ([4], [4]), ([5, 4], [4, 5]), ([4, 6], [4, 6]), ([7, 4], [7]), ([8], [8]), ([9, 8], [8, 9]), ([8], [8]), ([10, 11, 8], [8, 10, 11]), ([12, 8], [8, 12]), ([13, 8], [8, 13]), ([8], [8]), ([15, 8], [8, 15]), ([14, 16, 8], [8, 14, 16]), ([17, 8, 8], [8, 17]), ([18], [18]), ([18], [18]), ([19, 20, 18], [18, 19, 20]), ([18, 21, 8], [8, 18, 21]), ([8, 22], [8, 22])])
def gu.B23 : List Nat := [0, 1, 3, 7, 15, 31, 63, 127, 255, 511, 1023, 511, 4095, 8191, 16383, 511, 33279, 131071, 262143, 524287, 524287, 2097151, 4194303, 8388607]
theorem gu.tab23 : rtab .any (opsOf Try.f6 23) = gu.T23 := by kernel_rfl
theorem gu.bits23 : waitsOk gu.T23.2 gu.B23 = true := by kernel_rfl
def gu.T31 : Bool × List (List Nat × List Nat) := (true, [([], []), ([0], [0]), ([], []), ([2], [2]), ([], []), ([3, 4], [3, 4]), ([5], [5]), ([6], [6]), ([1, 7], [1, 7]), ([0, 1, 2, 3, 4, 5, 6, 7, 8], []), ([9, 8, 8, 0, 1, 2, 3, 4, 5, 6, 7, 8], [8, 9])])
def gu.B31 : List Nat := [0, 1, 0, 4, 0, 28, 60, 124, 255, 511, 1023]
theorem gu.tab31 : rtab .any (opsOf Try.f6 31) = gu.T31 := by kernel_rfl
theorem gu.bits31 : waitsOk gu.T31.2 gu.B31 = true := by kernel_rfl
set_option maxRecDepth 100000 in
set_option maxHeartbeats 8000000 in
theorem GlobRules_walk (k : Nat) (A0 : Option Addr) (c0 : Nat) (l0 : List Int) (A1 : Option Addr) (c1 : Nat) (l1 : List Int) (n : Int) (p0 p1 p2 : List ByteArray) (p3 : List S36) (p4 : List S34) (p5 : List S51) (q0 q1 q2 : List ByteArray) (q3 : List S36) (q4 : List S34) (q5 : List S51) (ab : Bool) (u a o : ByteArray) (w : World)
    (hr0 : Kd.C (Kd.int .i64) w A0 l0.length l0) (hc0 : l0.length ≤ c0) (hr1 : Kd.C (Kd.int .i64) w A1 l1.length l1) (hc1 : l1.length ≤ c1) (h4 : p4.length ≤ 8) (h5 : p5.length ≤ 8) (hq4 : q4.length ≤ 8) (hq5 : q5.length ≤ 8)
    (hM : entaillaw23_Made.f k l0 = some (p0, p1, p2, p3, p4, p5)) (hM1 : entaillaw23_Made.f k l1 = some (q0, q1, q2, q3, q4, q5)) (hA : entaillaw24_Ask.f n = some (ab, u, a, o))
    (was : Bool) (hw : glob_May.f k p0 p1 p2 p3 p4 p5 u a o = some was)
    (nS : S34 → Bool) (hS : ∀ x ∈ q4, glob_May.f k p0 p1 p2 p3 (p4 ++ [x]) p5 u a o = some (nS x) ∧ (x.f1 = true → nS x = true → was = true) ∧ (x.f1 = false → was = true → nS x = true))
    (nB : S51 → Bool) (hB : ∀ x ∈ q5, glob_May.f k p0 p1 p2 p3 p4 (p5 ++ [x]) u a o = some (nB x) ∧ ((p5.all fun y => y.f0.toList != u.toList) = true → nB x = true → was = true) ∧ ((x.f0.toList != u.toList) = true → nB x = was))
    (hN : glob_May.f k p0 p1 p2 p3 (p4.filter fun x => x.f1) p5 u a o = some false)
    (told : Bool) (ht : told = ((u.toList != [120]) && (a.toList != [122]) && (o.toList != [99])))
    (hT : glob_May.f k p0 p1 p2 [] [⟨(⟨#[97]⟩ : ByteArray), false, p0, [], [(⟨#[42]⟩ : ByteArray)], [(⟨#[42]⟩ : ByteArray)]⟩] [] u a o = some told) (hwt : was = true → told = true) (haw : entaillaw24_awake.f k = some true) :
    Calls Try.prog 6 #[.slice A0 l0.length c0, .slice A1 l1.length c1, .int .i64 n] w fun e w' => e = .returned (.bool true) ∧ Below w.heap.size w w' := by
  have hu28 := Try.underlying28
  have hu31 := Try.underlying31
  have hu36 := Try.underlying36
  have hu51 := Try.underlying51
  have hu34 := Try.underlying34
  have HM := Aside0.mk (entaillaw23_Made.callsV k A0 c0 l0 p0 p1 p2 p3 p4 p5 w hr0 hc0 hM)
  have HR1 := Aside0.mk hr1
  have HM1 := Aside0.mk (hM1)
  have HA := Aside0.mk (fun W => entaillaw24_Ask.calls n ab u a o W hA)
  have HW := Aside0.mk (hw)
  have HS := Aside0.mk (hS)
  have HBD := Aside0.mk (hB)
  have HN := Aside0.mk (hN)
  have HT := Aside0.mk (hT)
  have HAW := Aside0.mk (haw)
  have HTD := Aside0.mk (ht)
  have HWT := Aside0.mk (hwt)
  clear hr0 hr1 hM hM1 hA hw hS hB hN hT haw ht hwt
  go_enter Try.func6, Try.ntmps6
  go_upto_region 1 with (fail)
  go_upto_region 2 with (first | (go_at_call 7; go_loud (with_reducible refine HM.out.mono ?_; rintro e w1 ⟨v0, v1, v2, v3, v4, v5, rfl, h0, h1, h2, h3, h4', h5', hb⟩; obtain ⟨P0, e0, rfl, mP0, g0⟩ := V_open h0; obtain ⟨P1, e1, rfl, mP1, g1⟩ := V_open h1; obtain ⟨P2, e2, rfl, mP2, g2⟩ := V_open h2; obtain ⟨P3, e3, rfl, mP3, g3⟩ := V_open h3; obtain ⟨P4, e4, rfl, mP4, g4⟩ := V_open h4'; obtain ⟨P5, e5, rfl, mP5, g5⟩ := V_open h5'; have HB1 := Aside0.mk hb; have G0 := Aside0.mk g0; have G1 := Aside0.mk g1; have G2 := Aside0.mk g2; have G3 := Aside0.mk g3; have G4 := Aside0.mk g4; have G5 := Aside0.mk g5; clear hb g0 g1 g2 g3 g4 g5)) | (go_at_call 8; with_reducible refine (HA.out _).mono ?_; rintro e w2 ⟨rfl, hb⟩; have HB2 := Aside0.mk (below_step HB1.out hb); have K0 := Aside0.mk (Kd.C_below G0.out hb); have K1 := Aside0.mk (Kd.C_below G1.out hb); have K2 := Aside0.mk (Kd.C_below G2.out hb); have K3 := Aside0.mk (Kd.C_below G3.out hb); have K4 := Aside0.mk (Kd.C_below G4.out hb); have K5 := Aside0.mk (Kd.C_below G5.out hb); clear hb G0 G1 G2 G3 G4 G5 HB1) | ((with_reducible refine gate_dst (N := 7) rfl ?_); (try (refine gate_guard (by rfl) ?_; dsimp only)); refine box_event ?hg (N := 7) ?hd (cs := #[.slice none 0 0, .slice none 0 0, .slice none 0 0, .slice none 0 0, .slice none 0 0, .slice none 0 0]) (t := 28) ?hr ?_; (case hd => rfl); (case hg => rfl); (case hr => first | (go_simp; done) | (go_simp; rfl)); intro gp hg w3 hbox hb; have BP := Aside0.mk hbox; have HB3 := Aside0.mk hb; have GP := Aside0.mk ((by rw [hg]; exact Nat.le_refl _) : w2.heap.size ≤ gp); clear hg hbox hb) | ((with_reducible refine gate_dst (N := 8) rfl ?_); (try (refine gate_guard (by rfl) ?_; dsimp only)); refine box_event ?hg (N := 8) ?hd (cs := #[.bool false, .string (⟨#[]⟩ : ByteArray), .string (⟨#[]⟩ : ByteArray), .string (⟨#[]⟩ : ByteArray)]) (t := 31) ?hr ?_; (case hd => rfl); (case hg => rfl); (case hr => first | (go_simp; done) | (go_simp; rfl)); intro ga hg w4 hbox hb; have BA := Aside0.mk hbox; have HB4 := Aside0.mk (below_step HB3.out hb); have BP4 := Aside0.mk (blk_below BP.out hb); have GA := Aside0.mk ((by rw [hg]; exact below_size HB3.out) : w2.heap.size ≤ ga); have NE := Aside0.mk ((by rw [hg]; exact Nat.ne_of_lt (blk_lt BP.out)) : gp ≠ ga); clear BP HB3; have hne := NE.out; have hne' := Ne.symm NE.out; have hcgp0 : w4.cell? ⟨gp, 0, none⟩ = some (.slice none 0 0) := (blk_cell BP4.out 0).trans rfl; have hfcgp0 := blk_frozen BP4.out 0; have hcgp1 : w4.cell? ⟨gp, 1, none⟩ = some (.slice none 0 0) := (blk_cell BP4.out 1).trans rfl; have hfcgp1 := blk_frozen BP4.out 1; have hcgp2 : w4.cell? ⟨gp, 2, none⟩ = some (.slice none 0 0) := (blk_cell BP4.out 2).trans rfl; have hfcgp2 := blk_frozen BP4.out 2; have hcgp3 : w4.cell? ⟨gp, 3, none⟩ = some (.slice none 0 0) := (blk_cell BP4.out 3).trans rfl; have hfcgp3 := blk_frozen BP4.out 3; have hcgp4 : w4.cell? ⟨gp, 4, none⟩ = some (.slice none 0 0) := (blk_cell BP4.out 4).trans rfl; have hfcgp4 := blk_frozen BP4.out 4; have hcgp5 : w4.cell? ⟨gp, 5, none⟩ = some (.slice none 0 0) := (blk_cell BP4.out 5).trans rfl; have hfcgp5 := blk_frozen BP4.out 5; have hcga0 : w4.cell? ⟨ga, 0, none⟩ = some (.bool false) := (blk_cell BA.out 0).trans rfl; have hfcga0 := blk_frozen BA.out 0; have hcga1 : w4.cell? ⟨ga, 1, none⟩ = some (.string (⟨#[]⟩ : ByteArray)) := (blk_cell BA.out 1).trans rfl; have hfcga1 := blk_frozen BA.out 1; have hcga2 : w4.cell? ⟨ga, 2, none⟩ = some (.string (⟨#[]⟩ : ByteArray)) := (blk_cell BA.out 2).trans rfl; have hfcga2 := blk_frozen BA.out 2; have hcga3 : w4.cell? ⟨ga, 3, none⟩ = some (.string (⟨#[]⟩ : ByteArray)) := (blk_cell BA.out 3).trans rfl; have hfcga3 := blk_frozen BA.out 3; clear hg hbox hb))
  have B5 := Aside0.mk (show Below w2.heap.size w2 ((((((((((w4.setCell ⟨gp, 0, none⟩ (.slice P0 p0.length e0)).setCell ⟨gp, 1, none⟩ (.slice P1 p1.length e1)).setCell ⟨gp, 2, none⟩ (.slice P2 p2.length e2)).setCell ⟨gp, 3, none⟩ (.slice P3 p3.length e3)).setCell ⟨gp, 4, none⟩ (.slice P4 p4.length e4)).setCell ⟨gp, 5, none⟩ (.slice P5 p5.length e5)).setCell ⟨ga, 0, none⟩ (.bool ab)).setCell ⟨ga, 1, none⟩ (.string u)).setCell ⟨ga, 2, none⟩ (.string a)).setCell ⟨ga, 3, none⟩ (.string o)) from below_set (below_set (below_set (below_set (below_set (below_set (below_set (below_set (below_set (below_set (HB4.out) GP.out) GP.out) GP.out) GP.out) GP.out) GP.out) GA.out) GA.out) GA.out) GA.out)
  have BP5 := Aside0.mk (show ((((((((((w4.setCell ⟨gp, 0, none⟩ (.slice P0 p0.length e0)).setCell ⟨gp, 1, none⟩ (.slice P1 p1.length e1)).setCell ⟨gp, 2, none⟩ (.slice P2 p2.length e2)).setCell ⟨gp, 3, none⟩ (.slice P3 p3.length e3)).setCell ⟨gp, 4, none⟩ (.slice P4 p4.length e4)).setCell ⟨gp, 5, none⟩ (.slice P5 p5.length e5)).setCell ⟨ga, 0, none⟩ (.bool ab)).setCell ⟨ga, 1, none⟩ (.string u)).setCell ⟨ga, 2, none⟩ (.string a)).setCell ⟨ga, 3, none⟩ (.string o)).heap[gp]? = some (.cells #[.slice P0 p0.length e0, .slice P1 p1.length e1, .slice P2 p2.length e2, .slice P3 p3.length e3, .slice P4 p4.length e4, .slice P5 p5.length e5] 28 (0, 0)) from blk_far (blk_far (blk_far (blk_far (blk_put (blk_put (blk_put (blk_put (blk_put (blk_put (BP4.out) 0 _ rfl) 1 _ rfl) 2 _ rfl) 3 _ rfl) 4 _ rfl) 5 _ rfl) hne _) hne _) hne _) hne _)
  have BA5 := Aside0.mk (show ((((((((((w4.setCell ⟨gp, 0, none⟩ (.slice P0 p0.length e0)).setCell ⟨gp, 1, none⟩ (.slice P1 p1.length e1)).setCell ⟨gp, 2, none⟩ (.slice P2 p2.length e2)).setCell ⟨gp, 3, none⟩ (.slice P3 p3.length e3)).setCell ⟨gp, 4, none⟩ (.slice P4 p4.length e4)).setCell ⟨gp, 5, none⟩ (.slice P5 p5.length e5)).setCell ⟨ga, 0, none⟩ (.bool ab)).setCell ⟨ga, 1, none⟩ (.string u)).setCell ⟨ga, 2, none⟩ (.string a)).setCell ⟨ga, 3, none⟩ (.string o)).heap[ga]? = some (.cells #[.bool ab, .string u, .string a, .string o] 31 (0, 0)) from blk_put (blk_put (blk_put (blk_put (blk_far (blk_far (blk_far (blk_far (blk_far (blk_far (BA.out) hne' _) hne' _) hne' _) hne' _) hne' _) hne' _) 0 _ rfl) 1 _ rfl) 2 _ rfl) 3 _ rfl)
  generalize ((((((((((w4.setCell ⟨gp, 0, none⟩ (.slice P0 p0.length e0)).setCell ⟨gp, 1, none⟩ (.slice P1 p1.length e1)).setCell ⟨gp, 2, none⟩ (.slice P2 p2.length e2)).setCell ⟨gp, 3, none⟩ (.slice P3 p3.length e3)).setCell ⟨gp, 4, none⟩ (.slice P4 p4.length e4)).setCell ⟨gp, 5, none⟩ (.slice P5 p5.length e5)).setCell ⟨ga, 0, none⟩ (.bool ab)).setCell ⟨ga, 1, none⟩ (.string u)).setCell ⟨ga, 2, none⟩ (.string a)).setCell ⟨ga, 3, none⟩ (.string o)) = w5 at B5 BP5 BA5 ⊢
  clear hcgp0 hfcgp0 hcgp1 hfcgp1 hcgp2 hfcgp2 hcgp3 hfcgp3 hcgp4 hfcgp4 hcgp5 hfcgp5 hcga0 hfcga0 hcga1 hfcga1 hcga2 hfcga2 hcga3 hfcga3 BP4 BA HB4 hne hne' NE
  replace K0 := Aside0.mk (Kd.C_below K0.out B5.out)
  replace K1 := Aside0.mk (Kd.C_below K1.out B5.out)
  replace K2 := Aside0.mk (Kd.C_below K2.out B5.out)
  replace K3 := Aside0.mk (Kd.C_below K3.out B5.out)
  replace K4 := Aside0.mk (Kd.C_below K4.out B5.out)
  replace K5 := Aside0.mk (Kd.C_below K5.out B5.out)
  have HB5 := Aside0.mk (below_step HB2.out B5.out)
  clear HB2 B5 GP GA
  have HM2 := Aside0.mk (entaillaw23_Made.callsV k A1 c1 l1 q0 q1 q2 q3 q4 q5 w5 (Kd.C_below HR1.out HB5.out) hc1 HM1.out)
  go_upto_region 3 with (first | (go_at_call 7; go_loud (with_reducible refine HM2.out.mono ?_; rintro e w6 ⟨v0, v1, v2, v3, v4, v5, rfl, h0, h1, h2, h3, h4', h5', hb⟩; obtain ⟨Q0, d0, rfl, mQ0, g0⟩ := V_open h0; obtain ⟨Q1, d1, rfl, mQ1, g1⟩ := V_open h1; obtain ⟨Q2, d2, rfl, mQ2, g2⟩ := V_open h2; obtain ⟨Q3, d3, rfl, mQ3, g3⟩ := V_open h3; obtain ⟨Q4, d4, rfl, mQ4, g4⟩ := V_open h4'; obtain ⟨Q5, d5, rfl, mQ5, g5⟩ := V_open h5'; have B6 := Aside0.mk hb; have G0 := Aside0.mk g0; have G1 := Aside0.mk g1; have G2 := Aside0.mk g2; have G3 := Aside0.mk g3; have G4 := Aside0.mk g4; have G5 := Aside0.mk g5; clear hb g0 g1 g2 g3 g4 g5)) | ((with_reducible refine gate_dst (N := 9) rfl ?_); (try (refine gate_guard (by rfl) ?_; dsimp only)); refine box_event ?hg (N := 9) ?hd (cs := #[.slice none 0 0, .slice none 0 0, .slice none 0 0, .slice none 0 0, .slice none 0 0, .slice none 0 0]) (t := 28) ?hr ?_; (case hd => rfl); (case hg => rfl); (case hr => first | (go_simp; done) | (go_simp; rfl)); intro gq hg w7 hbox hb; have BQ := Aside0.mk hbox; have B7 := Aside0.mk hb; have GQ := Aside0.mk ((by rw [hg]; exact Nat.le_refl _) : w6.heap.size ≤ gq); have hcgq0 : w7.cell? ⟨gq, 0, none⟩ = some (.slice none 0 0) := (blk_cell BQ.out 0).trans rfl; have hfcgq0 := blk_frozen BQ.out 0; have hcgq1 : w7.cell? ⟨gq, 1, none⟩ = some (.slice none 0 0) := (blk_cell BQ.out 1).trans rfl; have hfcgq1 := blk_frozen BQ.out 1; have hcgq2 : w7.cell? ⟨gq, 2, none⟩ = some (.slice none 0 0) := (blk_cell BQ.out 2).trans rfl; have hfcgq2 := blk_frozen BQ.out 2; have hcgq3 : w7.cell? ⟨gq, 3, none⟩ = some (.slice none 0 0) := (blk_cell BQ.out 3).trans rfl; have hfcgq3 := blk_frozen BQ.out 3; have hcgq4 : w7.cell? ⟨gq, 4, none⟩ = some (.slice none 0 0) := (blk_cell BQ.out 4).trans rfl; have hfcgq4 := blk_frozen BQ.out 4; have hcgq5 : w7.cell? ⟨gq, 5, none⟩ = some (.slice none 0 0) := (blk_cell BQ.out 5).trans rfl; have hfcgq5 := blk_frozen BQ.out 5; clear hg hbox hb))
  have B8 := Aside0.mk (show Below w6.heap.size w6 ((((((w7.setCell ⟨gq, 0, none⟩ (.slice Q0 q0.length d0)).setCell ⟨gq, 1, none⟩ (.slice Q1 q1.length d1)).setCell ⟨gq, 2, none⟩ (.slice Q2 q2.length d2)).setCell ⟨gq, 3, none⟩ (.slice Q3 q3.length d3)).setCell ⟨gq, 4, none⟩ (.slice Q4 q4.length d4)).setCell ⟨gq, 5, none⟩ (.slice Q5 q5.length d5)) from below_set (below_set (below_set (below_set (below_set (below_set (B7.out) GQ.out) GQ.out) GQ.out) GQ.out) GQ.out) GQ.out)
  have BQ8 := Aside0.mk (show ((((((w7.setCell ⟨gq, 0, none⟩ (.slice Q0 q0.length d0)).setCell ⟨gq, 1, none⟩ (.slice Q1 q1.length d1)).setCell ⟨gq, 2, none⟩ (.slice Q2 q2.length d2)).setCell ⟨gq, 3, none⟩ (.slice Q3 q3.length d3)).setCell ⟨gq, 4, none⟩ (.slice Q4 q4.length d4)).setCell ⟨gq, 5, none⟩ (.slice Q5 q5.length d5)).heap[gq]? = some (.cells #[.slice Q0 q0.length d0, .slice Q1 q1.length d1, .slice Q2 q2.length d2, .slice Q3 q3.length d3, .slice Q4 q4.length d4, .slice Q5 q5.length d5] 28 (0, 0)) from blk_put (blk_put (blk_put (blk_put (blk_put (blk_put (BQ.out) 0 _ rfl) 1 _ rfl) 2 _ rfl) 3 _ rfl) 4 _ rfl) 5 _ rfl)
  generalize ((((((w7.setCell ⟨gq, 0, none⟩ (.slice Q0 q0.length d0)).setCell ⟨gq, 1, none⟩ (.slice Q1 q1.length d1)).setCell ⟨gq, 2, none⟩ (.slice Q2 q2.length d2)).setCell ⟨gq, 3, none⟩ (.slice Q3 q3.length d3)).setCell ⟨gq, 4, none⟩ (.slice Q4 q4.length d4)).setCell ⟨gq, 5, none⟩ (.slice Q5 q5.length d5)) = b at B8 BQ8 ⊢
  clear hcgq0 hfcgq0 hcgq1 hfcgq1 hcgq2 hfcgq2 hcgq3 hfcgq3 hcgq4 hfcgq4 hcgq5 hfcgq5 BQ B7 GQ
  replace K0 := Aside0.mk (Kd.C_below (Kd.C_below K0.out B6.out) B8.out)
  replace K1 := Aside0.mk (Kd.C_below (Kd.C_below K1.out B6.out) B8.out)
  replace K2 := Aside0.mk (Kd.C_below (Kd.C_below K2.out B6.out) B8.out)
  replace K3 := Aside0.mk (Kd.C_below (Kd.C_below K3.out B6.out) B8.out)
  replace K4 := Aside0.mk (Kd.C_below (Kd.C_below K4.out B6.out) B8.out)
  replace K5 := Aside0.mk (Kd.C_below (Kd.C_below K5.out B6.out) B8.out)
  have M4 := Aside0.mk (Kd.C_below G4.out B8.out)
  have M5 := Aside0.mk (Kd.C_below G5.out B8.out)
  have HB := Aside0.mk (below_step (below_step HB5.out B6.out) B8.out)
  have BP := Aside0.mk (blk_below (blk_below BP5.out B6.out) B8.out)
  have BA := Aside0.mk (blk_below (blk_below BA5.out B6.out) B8.out)
  have BQ := BQ8
  clear B6 B8 BP5 BA5 BQ8 HB5 HM2 G0 G1 G2 G3 G4 G5 HM HA HR1 HM1
  have cp0 : b.cell? ⟨gp, 0, none⟩ = some (.slice P0 p0.length e0) := (blk_cell BP.out 0).trans rfl
  have cp1 : b.cell? ⟨gp, 1, none⟩ = some (.slice P1 p1.length e1) := (blk_cell BP.out 1).trans rfl
  have cp2 : b.cell? ⟨gp, 2, none⟩ = some (.slice P2 p2.length e2) := (blk_cell BP.out 2).trans rfl
  have cp3 : b.cell? ⟨gp, 3, none⟩ = some (.slice P3 p3.length e3) := (blk_cell BP.out 3).trans rfl
  have cp4 : b.cell? ⟨gp, 4, none⟩ = some (.slice P4 p4.length e4) := (blk_cell BP.out 4).trans rfl
  have cp5 : b.cell? ⟨gp, 5, none⟩ = some (.slice P5 p5.length e5) := (blk_cell BP.out 5).trans rfl
  have ca1 : b.cell? ⟨ga, 1, none⟩ = some (.string u) := (blk_cell BA.out 1).trans rfl
  have ca2 : b.cell? ⟨ga, 2, none⟩ = some (.string a) := (blk_cell BA.out 2).trans rfl
  have ca3 : b.cell? ⟨ga, 3, none⟩ = some (.string o) := (blk_cell BA.out 3).trans rfl
  have cq4 : b.cell? ⟨gq, 4, none⟩ = some (.slice Q4 q4.length d4) := (blk_cell BQ.out 4).trans rfl
  have cq5 : b.cell? ⟨gq, 5, none⟩ = some (.slice Q5 q5.length d5) := (blk_cell BQ.out 5).trans rfl
  go_upto_region 4 with (go_at_call 9; with_reducible refine (glob_May.calls k _ _ p0 _ _ p1 _ _ p2 _ _ p3 _ _ p4 _ _ p5 u a o was _ K0.out mP0 K1.out mP1 K2.out mP2 K3.out mP3 K4.out mP4 K5.out mP5 HW.out).mono ?_; rintro e w9 ⟨rfl, hb⟩; have B0 := Aside0.mk hb; clear hb)
  have CP0 := Aside0.mk cp0
  have CP1 := Aside0.mk cp1
  have CP2 := Aside0.mk cp2
  have CP3 := Aside0.mk cp3
  have CP4 := Aside0.mk cp4
  have CP5 := Aside0.mk cp5
  have CA1 := Aside0.mk ca1
  have CA2 := Aside0.mk ca2
  have CA3 := Aside0.mk ca3
  have CQ4 := Aside0.mk cq4
  have CQ5 := Aside0.mk cq5
  clear cp0 cp1 cp2 cp3 cp4 cp5 ca1 ca2 ca3 cq4 cq5 BP BA BQ
  go_wp2
  go_loopg [11] q4.length (fun gg s11 wr => ∃ kk : Nat, kk ≤ q4.length ∧ q4.length - kk ≤ gg ∧ s11 = .int .i64 kk ∧ Aside0 (Below b.heap.size b wr))
  case atStart => exact ⟨0, Nat.zero_le _, by omega, rfl, B0⟩
  case round =>
    clear B0
    obtain ⟨kk, hkk, hgk, rfl, BR⟩ := hrel
    have fq4 := Bc BR.out CQ4.out
    by_cases hlt : kk < q4.length
    · have hltz : (kk : Int) < (q4.length : Int) := by omega
      have pz : (0 ≤ (kk : Int)) = True := eq_true (by omega)
      have qz : ((kk : Int) < (q4.length : Int)) = True := eq_true hltz
      obtain ⟨ad, A6, c6, A7, c7, A8, c8, A9, c9, rfl, hx0, hx1, hx2, hx3, hx4, hx5, hl2, hi2, hl3, hi3, hl4, hi4, hl5, hi5⟩ := at_T34 M4.out (kk : Int) (by omega) hltz
      have hy : rd_T34 q4 (kk : Int) = q4[kk] := by
          unfold rd_T34
          rw [Int.toNat_natCast, List.getD_eq_getElem?_getD, List.getElem?_eq_getElem hlt]; rfl
      rw [hy] at hx0 hx1 hx2 hx3 hx4 hx5 hl2 hi2 hl3 hi3 hl4 hi4 hl5 hi5
      rw [Int.toNat_natCast] at hx0 hx1 hx2 hx3 hx4 hx5
      obtain ⟨x, hxx⟩ : ∃ x, x = q4[kk] := ⟨_, rfl⟩
      rw [← hxx] at hx0 hx1 hx2 hx3 hx4 hx5 hl2 hi2 hl3 hi3 hl4 hi4 hl5 hi5
      have HSX := Aside0.mk (HS.out x (by rw [hxx]; exact List.getElem_mem _))
      have I2 := Aside0.mk (And.intro hl2 hi2)
      have I3 := Aside0.mk (And.intro hl3 hi3)
      have I4 := Aside0.mk (And.intro hl4 hi4)
      have I5 := Aside0.mk (And.intro hl5 hi5)
      have HX0 := Aside0.mk hx0
      have HX1 := Aside0.mk hx1
      have HX2 := Aside0.mk hx2
      have HX3 := Aside0.mk hx3
      have HX4 := Aside0.mk hx4
      have HX5 := Aside0.mk hx5
      clear hi2 hi3 hi4 hi5 hl2 hl3 hl4 hl5 hy hxx hx0 hx1 hx2 hx3 hx4 hx5
      go_upto_region 7 with (fail)
      have fp0 := Bc BR.out CP0.out
      have fp1 := Bc BR.out CP1.out
      have fp2 := Bc BR.out CP2.out
      have fp3 := Bc BR.out CP3.out
      have fp4 := Bc BR.out CP4.out
      have fp5 := Bc BR.out CP5.out
      go_upto_region 8 with (first | ((with_reducible refine gate_dst (N := 12) rfl ?_); (try (refine gate_guard (by rfl) ?_; dsimp only)); refine box_event ?hg (N := 12) ?hd (cs := #[.slice none 0 0, .slice none 0 0, .slice none 0 0, .slice none 0 0, .slice none 0 0, .slice none 0 0]) (t := 28) ?hr ?_; (case hd => rfl); (case hg => rfl); (case hr => first | (go_simp; done) | (go_simp; rfl)); intro gm hg w10 hbox hb; have BM := Aside0.mk hbox; have BW := Aside0.mk (below_step BR.out hb); have GM := Aside0.mk ((by rw [hg]; exact below_size BR.out) : b.heap.size ≤ gm); have hcgm0 : w10.cell? ⟨gm, 0, none⟩ = some (.slice none 0 0) := (blk_cell BM.out 0).trans rfl; have hfcgm0 := blk_frozen BM.out 0; have hcgm1 : w10.cell? ⟨gm, 1, none⟩ = some (.slice none 0 0) := (blk_cell BM.out 1).trans rfl; have hfcgm1 := blk_frozen BM.out 1; have hcgm2 : w10.cell? ⟨gm, 2, none⟩ = some (.slice none 0 0) := (blk_cell BM.out 2).trans rfl; have hfcgm2 := blk_frozen BM.out 2; have hcgm3 : w10.cell? ⟨gm, 3, none⟩ = some (.slice none 0 0) := (blk_cell BM.out 3).trans rfl; have hfcgm3 := blk_frozen BM.out 3; have hcgm4 : w10.cell? ⟨gm, 4, none⟩ = some (.slice none 0 0) := (blk_cell BM.out 4).trans rfl; have hfcgm4 := blk_frozen BM.out 4; have hcgm5 : w10.cell? ⟨gm, 5, none⟩ = some (.slice none 0 0) := (blk_cell BM.out 5).trans rfl; have hfcgm5 := blk_frozen BM.out 5; clear hg hbox hb))
      replace BW := Aside0.mk (show Below b.heap.size b ((((((w10.setCell ⟨gm, 0, none⟩ (.slice P0 p0.length e0)).setCell ⟨gm, 1, none⟩ (.slice P1 p1.length e1)).setCell ⟨gm, 2, none⟩ (.slice P2 p2.length e2)).setCell ⟨gm, 3, none⟩ (.slice P3 p3.length e3)).setCell ⟨gm, 4, none⟩ (.slice P4 p4.length e4)).setCell ⟨gm, 5, none⟩ (.slice P5 p5.length e5)) from below_set (below_set (below_set (below_set (below_set (below_set (BW.out) GM.out) GM.out) GM.out) GM.out) GM.out) GM.out)
      replace BM := Aside0.mk (show ((((((w10.setCell ⟨gm, 0, none⟩ (.slice P0 p0.length e0)).setCell ⟨gm, 1, none⟩ (.slice P1 p1.length e1)).setCell ⟨gm, 2, none⟩ (.slice P2 p2.length e2)).setCell ⟨gm, 3, none⟩ (.slice P3 p3.length e3)).setCell ⟨gm, 4, none⟩ (.slice P4 p4.length e4)).setCell ⟨gm, 5, none⟩ (.slice P5 p5.length e5)).heap[gm]? = some (.cells #[.slice P0 p0.length e0, .slice P1 p1.length e1, .slice P2 p2.length e2, .slice P3 p3.length e3, .slice P4 p4.length e4, .slice P5 p5.length e5] 28 (0, 0)) from blk_put (blk_put (blk_put (blk_put (blk_put (blk_put (BM.out) 0 _ rfl) 1 _ rfl) 2 _ rfl) 3 _ rfl) 4 _ rfl) 5 _ rfl)
      generalize ((((((w10.setCell ⟨gm, 0, none⟩ (.slice P0 p0.length e0)).setCell ⟨gm, 1, none⟩ (.slice P1 p1.length e1)).setCell ⟨gm, 2, none⟩ (.slice P2 p2.length e2)).setCell ⟨gm, 3, none⟩ (.slice P3 p3.length e3)).setCell ⟨gm, 4, none⟩ (.slice P4 p4.length e4)).setCell ⟨gm, 5, none⟩ (.slice P5 p5.length e5)) = w10n at BW BM ⊢
      clear hcgm0 hfcgm0 hcgm1 hfcgm1 hcgm2 hfcgm2 hcgm3 hfcgm3 hcgm4 hfcgm4 hcgm5 hfcgm5 fp0 fp1 fp2 fp3 fp4 fp5
      clear BR fq4
      refine start_ (n := 13) (S := fun w' => w'.cell? ⟨gp, 4, none⟩ = some (.slice P4 p4.length e4) ∧ w'.cell? ⟨gq, 4, none⟩ = some (.slice (some ad) q4.length d4) ∧ w'.cell? (ad.add (kk * 6)) = some (.string x.f0) ∧ w'.cell? ⟨(ad.add (kk * 6)).block, (ad.add (kk * 6)).off + 1, none⟩ = some (.bool x.f1) ∧ w'.cell? ⟨(ad.add (kk * 6)).block, (ad.add (kk * 6)).off + 2, none⟩ = some (.slice A6 x.f2.length c6) ∧ w'.cell? ⟨(ad.add (kk * 6)).block, (ad.add (kk * 6)).off + 3, none⟩ = some (.slice A7 x.f3.length c7) ∧ w'.cell? ⟨(ad.add (kk * 6)).block, (ad.add (kk * 6)).off + 4, none⟩ = some (.slice A8 x.f4.length c8) ∧ w'.cell? ⟨(ad.add (kk * 6)).block, (ad.add (kk * 6)).off + 5, none⟩ = some (.slice A9 x.f5.length c9)) (ds := [12]) #[false, false, false, false, false, false, false, false, false, false, false, false, false] (by kernel_rfl) rfl rfl ⟨Bc (below_drew1 BW.out) CP4.out, Bc (below_drew1 BW.out) CQ4.out, Bc (below_drew1 BW.out) HX0.out, Bc (below_drew1 BW.out) HX1.out, Bc (below_drew1 BW.out) HX2.out, Bc (below_drew1 BW.out) HX3.out, Bc (below_drew1 BW.out) HX4.out, Bc (below_drew1 BW.out) HX5.out⟩ (fun hHeld => ?_); refine with_tabW gu.tab8 gu.bits8 (fun HT_ HW_ => ?_)
      replace BW := Aside0.mk (below_drew1 BW.out)
      replace BM := Aside0.mk (blk_drew BM.out)
      generalize w10n.drew = wd at BW BM hHeld ⊢
      refine pure_ (i := 1) (N := some 46) (v := ?_) (a' := ?_) #[false, true, false, false, false, false, false, false, false, false, false, false, false] rfl rfl (any_of HT_.out (by kernel_rfl)) (fun _ _ _ h => h) (Or.inl ⟨by rfl, ?_⟩) ?_ ?_
      rotate_left
      · intro w'
        go_simp
        with_reducible rfl
      rotate_left
      · simp only [Act.put, List.setIfInBounds_toArray, List.set_cons_zero, List.set_cons_succ, i64_w, i32_w]
        rfl
      refine take_ (i := 2) (N := some 47) (v := ?_) (a' := ?_) #[false, true, true, false, false, false, false, false, false, false, false, false, false] rfl rfl (take_ofW HT_.out HW_.out (by kernel_rfl)) (fun _ _ _ h => h) (Or.inl ⟨by rfl, ?_⟩) hHeld ?_ ?_
      rotate_left
      · rintro w' ⟨s0, s1, s2, s3, s4, s5, s6, s7⟩
        go_simp
        with_reducible rfl
      rotate_left
      · simp only [Act.put, List.setIfInBounds_toArray, List.set_cons_zero, List.set_cons_succ, i64_w, i32_w]
        rfl
      refine pure_ (i := 4) (N := some 49) (v := ?_) (a' := ?_) #[false, true, true, false, true, false, false, false, false, false, false, false, false] rfl rfl (any_of HT_.out (by kernel_rfl)) (fun _ _ _ h => h) (Or.inl ⟨by rfl, ?_⟩) ?_ ?_
      rotate_left
      · intro w'
        go_simp
        with_reducible rfl
      rotate_left
      · simp only [Act.put, List.setIfInBounds_toArray, List.set_cons_zero, List.set_cons_succ, i64_w, i32_w]
        rfl
      refine take_ (i := 5) (N := some 50) (v := ?_) (a' := ?_) #[false, true, true, false, true, true, false, false, false, false, false, false, false] rfl rfl (take_ofW HT_.out HW_.out (by kernel_rfl)) (fun _ _ _ h => h) (Or.inl ⟨by rfl, ?_⟩) hHeld ?_ ?_
      rotate_left
      · rintro w' ⟨s0, s1, s2, s3, s4, s5, s6, s7⟩
        go_simp
        with_reducible rfl
      rotate_left
      · simp only [Act.put, List.setIfInBounds_toArray, List.set_cons_zero, List.set_cons_succ, i64_w, i32_w]
        rfl
      refine pure_ (i := 6) (N := some 51) (v := ?_) (a' := ?_) #[false, true, true, false, true, true, true, false, false, false, false, false, false] rfl rfl (any_of HT_.out (by kernel_rfl)) (fun _ _ _ h => h) (Or.inl ⟨by rfl, ?_⟩) ?_ ?_
      rotate_left
      · intro w'
        go_simp
        with_reducible rfl
      rotate_left
      · simp only [Act.put, List.setIfInBounds_toArray, List.set_cons_zero, List.set_cons_succ, i64_w, i32_w]
        rfl
      refine pure_ (i := 7) (N := some 52) (v := ?_) (a' := ?_) #[false, true, true, false, true, true, true, true, false, false, false, false, false] rfl rfl (any_of HT_.out (by kernel_rfl)) (fun _ _ _ h => h) (Or.inl ⟨by rfl, ?_⟩) ?_ ?_
      rotate_left
      · intro w'
        go_simp
        with_reducible rfl
      rotate_left
      · simp only [Act.put, List.setIfInBounds_toArray, List.set_cons_zero, List.set_cons_succ, i64_w, i32_w]
        rfl
      refine take_ (i := 8) (N := some 53) (v := ?_) (a' := ?_) #[false, true, true, false, true, true, true, true, true, false, false, false, false] rfl rfl (take_ofW HT_.out HW_.out (by kernel_rfl)) (fun _ _ _ h => h) (Or.inl ⟨by rfl, ?_⟩) hHeld ?_ ?_
      rotate_left
      · rintro w' ⟨s0, s1, s2, s3, s4, s5, s6, s7⟩
        go_simp
        with_reducible rfl
      rotate_left
      · simp only [Act.put, List.setIfInBounds_toArray, List.set_cons_zero, List.set_cons_succ, i64_w, i32_w]
        rfl
      have hgm := blk_lt BM.out
      have hgb := GM.out
      have hbd := below_size BW.out
      refine join_ (σ := Value × Value × Value) 3 #[true, true, true, true, true, true, true, true, true, true, false, false, false] (fun s => [(45, s.1), (48, s.2.1), (54, s.2.2)]) (fun s w' => Below wd.heap.size wd w' ∧ ∃ g9, wd.heap.size ≤ g9 ∧ Kd.N k34 34 w' wd.heap.size (fun k => k < b.heap.size ∨ k = g9) s.2.2 ([x] : List S34) ∧ Kd.N k34 34 w' wd.heap.size (fun k => k ≠ gm) s.2.1 p4 ∧ ∀ k, s.2.1.ownBlock = some k → k ≠ g9) ?_ ?_
      rotate_left
      · intro hJ
        refine two_ (i := 0) (j := 9) (Ni := some 45) (Nj := some 54) #[true, true, true, false, true, true, true, true, true, false, false, false, false] #[false, true, true, false, true, true, true, true, true, true, false, false, false] rfl rfl rfl rfl (two_of HT_.out (by kernel_rfl)) (by decide) (by decide) (fun K hK => ?_) (fun K hK => ?_)
        · replace hK := Aside0.mk hK
          refine Kd.N_lit_step k34 (w0 := wd) wd.heap.size 34 ?hg (N' := 45) ?hd (xs := ([] : List S34)) (inner := []) (ok := fun k => k ≠ gm) (okp := fun _ => False) ?hr ?hp (fun _ hk => hk.elim) ?hf (Below.refl wd.heap.size wd) ?hb (by simp) ?_
          (case hd => rfl)
          (case hg => rfl)
          (case hr => first | (go_simp; done) | (go_simp; rfl))
          (case hp => exact Reps.none _ _)
          (case hf => have := below_size (Below.refl wd.heap.size wd); show wd.heap.size ≠ gm; omega)
          (case hb => exact below_size (Below.refl wd.heap.size wd))
          intro v45 w1 n0 b0 hgr hfr
          refine hK.out _ _ ⟨Bc (below_step BW.out b0) CP4.out, Bc (below_step BW.out b0) CQ4.out, Bc (below_step BW.out b0) HX0.out, Bc (below_step BW.out b0) HX1.out, Bc (below_step BW.out b0) HX2.out, Bc (below_step BW.out b0) HX3.out, Bc (below_step BW.out b0) HX4.out, Bc (below_step BW.out b0) HX5.out⟩ (fun hHeld => ?_)
          clear hK K
          refine norm_ (a' := ?_) ?_ ?_
          rotate_left
          · show Act.put _ (some 45) _ = _
            simp only [Act.put, List.setIfInBounds_toArray, List.set_cons_zero, List.set_cons_succ, i64_w, i32_w]
            rfl
          refine two_ (i := 3) (j := 9) (Ni := some 48) (Nj := some 54) #[true, true, true, true, true, true, true, true, true, false, false, false, false] #[true, true, true, false, true, true, true, true, true, true, false, false, false] rfl rfl rfl rfl (two_of HT_.out (by kernel_rfl)) (by decide) (by decide) (fun K hK => ?_) (fun K hK => ?_)
          · replace hK := Aside0.mk hK
            refine Kd.N_append_rows_step k34 (w0 := wd) wd.heap.size (by rfl) (.tmp 45) (.tmp 47) 25 34 (.agg #[(.string ⟨#[]⟩), (.bool false), (.slice none 0 0), (.slice none 0 0), (.slice none 0 0), (.slice none 0 0)]) 120 rfl Try.underlying25 info34 rfl (by decide) (by omega) v45 [] p4 P4 p4.length e4 (fun k => k ≠ gm) (fun k => k < b.heap.size) rfl rfl n0 (Kd.F_below (Kd.C_F heap34 K4.out) (below_step BW.out b0)) ?aK ?aF b0 ?hb ?aL ?_
            (case aK => exact fun k hk => ⟨by omega, fun e_ => by have := Kd.N_base n0 k e_.symm; omega⟩)
            (case aF => exact fun k hk => by have := below_size b0; show k ≠ gm; omega)
            (case hb => exact below_size b0)
            (case aL => simp only [List.length_nil]; omega)
            intro v48 w2 n3 b3 hgr3 hat3
            rw [List.nil_append] at n3
            refine hK.out _ _ ⟨Bc (below_step BW.out b3) CP4.out, Bc (below_step BW.out b3) CQ4.out, Bc (below_step BW.out b3) HX0.out, Bc (below_step BW.out b3) HX1.out, Bc (below_step BW.out b3) HX2.out, Bc (below_step BW.out b3) HX3.out, Bc (below_step BW.out b3) HX4.out, Bc (below_step BW.out b3) HX5.out⟩ (fun hHeld => ?_)
            clear hK K
            refine norm_ (a' := ?_) ?_ ?_
            rotate_left
            · show Act.put _ (some 48) _ = _
              simp only [Act.put, List.setIfInBounds_toArray, List.set_cons_zero, List.set_cons_succ, i64_w, i32_w]
              rfl
            refine one_ (i := 9) (N := some 54) #[true, true, true, true, true, true, true, true, true, true, false, false, false] rfl rfl (one_of HT_.out (by kernel_rfl)) (by decide) (fun K hK => ?_)
            replace hK := Aside0.mk hK
            refine Kd.N_lit_step k34 (w0 := wd) wd.heap.size 34 ?hg (N' := 54) ?hd (xs := ([x] : List S34)) (inner := [.string x.f0, .bool x.f1, .slice A6 x.f2.length c6, .slice A7 x.f3.length c7, .slice A8 x.f4.length c8, .slice A9 x.f5.length c9]) (ok := fun k => k < b.heap.size ∨ k = w2.heap.size) (okp := fun k => k < b.heap.size) ?hr ?hp (fun _ hk => Or.inl hk) (Or.inr rfl) b3 ?hb (by simp) ?_
            (case hd => rfl)
            (case hg => rfl)
            (case hr => first | (go_simp; done) | (go_simp; rfl))
            (case hp => exact Reps.front (k34_mkF w2 (fun k => k < b.heap.size) x I2.out.1 (Kd.F_mono (Kd.F_below (Kd.C_F Kd.heap_string I2.out.2) (below_step BW.out b3)) (fun k hk => hk)) I3.out.1 (Kd.F_mono (Kd.F_below (Kd.C_F Kd.heap_string I3.out.2) (below_step BW.out b3)) (fun k hk => hk)) I4.out.1 (Kd.F_mono (Kd.F_below (Kd.C_F Kd.heap_string I4.out.2) (below_step BW.out b3)) (fun k hk => hk)) I5.out.1 (Kd.F_mono (Kd.F_below (Kd.C_F Kd.heap_string I5.out.2) (below_step BW.out b3)) (fun k hk => hk))) rfl (Reps.none _ _) rfl)
            (case hb => exact below_size b3)
            intro v54 w3 n9 b9 hgr9 hfr9
            refine hK.out _ _ ⟨Bc (below_step BW.out b9) CP4.out, Bc (below_step BW.out b9) CQ4.out, Bc (below_step BW.out b9) HX0.out, Bc (below_step BW.out b9) HX1.out, Bc (below_step BW.out b9) HX2.out, Bc (below_step BW.out b9) HX3.out, Bc (below_step BW.out b9) HX4.out, Bc (below_step BW.out b9) HX5.out⟩ (fun hHeld => ?_)
            refine norm_ (a' := ?_) ?_ ?_
            rotate_left
            · show Act.put _ (some 54) _ = _
              simp only [Act.put, List.setIfInBounds_toArray, List.set_cons_zero, List.set_cons_succ, i64_w, i32_w]
              rfl
            refine norm_ ?_ (hJ (v45, v48, v54) w3 ⟨b9, w2.heap.size, below_size b3, n9, Kd.N_below n3 (below_grown hgr9), fun k hk => by have := Kd.N_lt n3 k hk; omega⟩)
            simp only [putAll, Act.put, List.setIfInBounds_toArray, List.set_cons_zero, List.set_cons_succ]
          · replace hK := Aside0.mk hK
            refine Kd.N_lit_step k34 (w0 := wd) wd.heap.size 34 ?hg (N' := 54) ?hd (xs := ([x] : List S34)) (inner := [.string x.f0, .bool x.f1, .slice A6 x.f2.length c6, .slice A7 x.f3.length c7, .slice A8 x.f4.length c8, .slice A9 x.f5.length c9]) (ok := fun k => k < b.heap.size ∨ k = w1.heap.size) (okp := fun k => k < b.heap.size) ?hr ?hp (fun _ hk => Or.inl hk) (Or.inr rfl) b0 ?hb (by simp) ?_
            (case hd => rfl)
            (case hg => rfl)
            (case hr => first | (go_simp; done) | (go_simp; rfl))
            (case hp => exact Reps.front (k34_mkF w1 (fun k => k < b.heap.size) x I2.out.1 (Kd.F_mono (Kd.F_below (Kd.C_F Kd.heap_string I2.out.2) (below_step BW.out b0)) (fun k hk => hk)) I3.out.1 (Kd.F_mono (Kd.F_below (Kd.C_F Kd.heap_string I3.out.2) (below_step BW.out b0)) (fun k hk => hk)) I4.out.1 (Kd.F_mono (Kd.F_below (Kd.C_F Kd.heap_string I4.out.2) (below_step BW.out b0)) (fun k hk => hk)) I5.out.1 (Kd.F_mono (Kd.F_below (Kd.C_F Kd.heap_string I5.out.2) (below_step BW.out b0)) (fun k hk => hk))) rfl (Reps.none _ _) rfl)
            (case hb => exact below_size b0)
            intro v54 w2 n9 b9 hgr9 hfr9
            refine hK.out _ _ ⟨Bc (below_step BW.out b9) CP4.out, Bc (below_step BW.out b9) CQ4.out, Bc (below_step BW.out b9) HX0.out, Bc (below_step BW.out b9) HX1.out, Bc (below_step BW.out b9) HX2.out, Bc (below_step BW.out b9) HX3.out, Bc (below_step BW.out b9) HX4.out, Bc (below_step BW.out b9) HX5.out⟩ (fun hHeld => ?_)
            clear hK K
            refine norm_ (a' := ?_) ?_ ?_
            rotate_left
            · show Act.put _ (some 54) _ = _
              simp only [Act.put, List.setIfInBounds_toArray, List.set_cons_zero, List.set_cons_succ, i64_w, i32_w]
              rfl
            have hl1 : w1.heap.size < w2.heap.size := by obtain ⟨z, hz1, hz2⟩ := hfr9; have := Kd.N_lt n9 z hz1; omega
            have hne : ∀ k, v45.ownBlock = some k → k ≠ w1.heap.size := fun k hk => by have := Kd.N_lt n0 k hk; omega
            have hba := Kd.N_base n0
            replace n0 := Kd.N_below n0 (below_grown hgr9)
            refine one_ (i := 3) (N := some 48) #[true, true, true, true, true, true, true, true, true, true, false, false, false] rfl rfl (one_of HT_.out (by kernel_rfl)) (by decide) (fun K hK => ?_)
            replace hK := Aside0.mk hK
            refine Kd.N_append_rows_step k34 (w0 := wd) wd.heap.size (by rfl) (.tmp 45) (.tmp 47) 25 34 (.agg #[(.string ⟨#[]⟩), (.bool false), (.slice none 0 0), (.slice none 0 0), (.slice none 0 0), (.slice none 0 0)]) 120 rfl Try.underlying25 info34 rfl (by decide) (by omega) v45 [] p4 P4 p4.length e4 (fun k => k ≠ gm) (fun k => k < b.heap.size) rfl rfl n0 (Kd.F_below (Kd.C_F heap34 K4.out) (below_step BW.out b9)) ?aK ?aF b9 ?hb ?aL ?_
            (case aK => exact fun k hk => ⟨by omega, fun e_ => by have := Kd.N_base n0 k e_.symm; omega⟩)
            (case aF => exact fun k hk => by have := below_size b9; show k ≠ gm; omega)
            (case hb => exact below_size b9)
            (case aL => simp only [List.length_nil]; omega)
            intro v48 w3 n3 b3 hgr3 hat3
            rw [List.nil_append] at n3
            refine hK.out _ _ ⟨Bc (below_step BW.out b3) CP4.out, Bc (below_step BW.out b3) CQ4.out, Bc (below_step BW.out b3) HX0.out, Bc (below_step BW.out b3) HX1.out, Bc (below_step BW.out b3) HX2.out, Bc (below_step BW.out b3) HX3.out, Bc (below_step BW.out b3) HX4.out, Bc (below_step BW.out b3) HX5.out⟩ (fun hHeld => ?_)
            refine norm_ (a' := ?_) ?_ ?_
            rotate_left
            · show Act.put _ (some 48) _ = _
              simp only [Act.put, List.setIfInBounds_toArray, List.set_cons_zero, List.set_cons_succ, i64_w, i32_w]
              rfl
            refine norm_ ?_ (hJ (v45, v48, v54) w3 ⟨b3, w1.heap.size, below_size b0, Kd.N_grown n9 hgr3 (fun k hk e_ => by have h1 := hba k e_.symm; have h2 := hne k e_.symm; omega), n3, fun k hk => by
              rcases hat3 with h | ⟨z, hz, hz2⟩
              · rw [h] at hk; exact hne k hk
              · rw [hz] at hk; injection hk with hk; omega⟩)
            simp only [putAll, Act.put, List.setIfInBounds_toArray, List.set_cons_zero, List.set_cons_succ]
        · replace hK := Aside0.mk hK
          refine Kd.N_lit_step k34 (w0 := wd) wd.heap.size 34 ?hg (N' := 54) ?hd (xs := ([x] : List S34)) (inner := [.string x.f0, .bool x.f1, .slice A6 x.f2.length c6, .slice A7 x.f3.length c7, .slice A8 x.f4.length c8, .slice A9 x.f5.length c9]) (ok := fun k => k < b.heap.size ∨ k = wd.heap.size) (okp := fun k => k < b.heap.size) ?hr ?hp (fun _ hk => Or.inl hk) (Or.inr rfl) (Below.refl wd.heap.size wd) ?hb (by simp) ?_
          (case hd => rfl)
          (case hg => rfl)
          (case hr => first | (go_simp; done) | (go_simp; rfl))
          (case hp => exact Reps.front (k34_mkF wd (fun k => k < b.heap.size) x I2.out.1 (Kd.F_mono (Kd.F_below (Kd.C_F Kd.heap_string I2.out.2) (below_step BW.out (Below.refl wd.heap.size wd))) (fun k hk => hk)) I3.out.1 (Kd.F_mono (Kd.F_below (Kd.C_F Kd.heap_string I3.out.2) (below_step BW.out (Below.refl wd.heap.size wd))) (fun k hk => hk)) I4.out.1 (Kd.F_mono (Kd.F_below (Kd.C_F Kd.heap_string I4.out.2) (below_step BW.out (Below.refl wd.heap.size wd))) (fun k hk => hk)) I5.out.1 (Kd.F_mono (Kd.F_below (Kd.C_F Kd.heap_string I5.out.2) (below_step BW.out (Below.refl wd.heap.size wd))) (fun k hk => hk))) rfl (Reps.none _ _) rfl)
          (case hb => exact below_size (Below.refl wd.heap.size wd))
          intro v54 w1 n9 b9 hgr9 hfr9
          refine hK.out _ _ ⟨Bc (below_step BW.out b9) CP4.out, Bc (below_step BW.out b9) CQ4.out, Bc (below_step BW.out b9) HX0.out, Bc (below_step BW.out b9) HX1.out, Bc (below_step BW.out b9) HX2.out, Bc (below_step BW.out b9) HX3.out, Bc (below_step BW.out b9) HX4.out, Bc (below_step BW.out b9) HX5.out⟩ (fun hHeld => ?_)
          clear hK K
          refine norm_ (a' := ?_) ?_ ?_
          rotate_left
          · show Act.put _ (some 54) _ = _
            simp only [Act.put, List.setIfInBounds_toArray, List.set_cons_zero, List.set_cons_succ, i64_w, i32_w]
            rfl
          have hl1 : wd.heap.size < w1.heap.size := by obtain ⟨z, hz1, hz2⟩ := hfr9; have := Kd.N_lt n9 z hz1; omega
          refine one_ (i := 0) (N := some 45) #[true, true, true, false, true, true, true, true, true, true, false, false, false] rfl rfl (one_of HT_.out (by kernel_rfl)) (by decide) (fun K hK => ?_)
          replace hK := Aside0.mk hK
          refine Kd.N_lit_step k34 (w0 := wd) wd.heap.size 34 ?hg (N' := 45) ?hd (xs := ([] : List S34)) (inner := []) (ok := fun k => k ≠ gm) (okp := fun _ => False) ?hr ?hp (fun _ hk => hk.elim) ?hf b9 ?hb (by simp) ?_
          (case hd => rfl)
          (case hg => rfl)
          (case hr => first | (go_simp; done) | (go_simp; rfl))
          (case hp => exact Reps.none _ _)
          (case hf => have := below_size b9; show w1.heap.size ≠ gm; omega)
          (case hb => exact below_size b9)
          intro v45 w2 n0 b0 hgr hfr
          refine hK.out _ _ ⟨Bc (below_step BW.out b0) CP4.out, Bc (below_step BW.out b0) CQ4.out, Bc (below_step BW.out b0) HX0.out, Bc (below_step BW.out b0) HX1.out, Bc (below_step BW.out b0) HX2.out, Bc (below_step BW.out b0) HX3.out, Bc (below_step BW.out b0) HX4.out, Bc (below_step BW.out b0) HX5.out⟩ (fun hHeld => ?_)
          clear hK K
          refine norm_ (a' := ?_) ?_ ?_
          rotate_left
          · show Act.put _ (some 45) _ = _
            simp only [Act.put, List.setIfInBounds_toArray, List.set_cons_zero, List.set_cons_succ, i64_w, i32_w]
            rfl
          have hne : ∀ k, v45.ownBlock = some k → k ≠ wd.heap.size := fun k hk => by obtain ⟨z, hz1, hz2⟩ := hfr; rw [hz1] at hk; injection hk with hk; omega
          have hba := Kd.N_base n0
          have hs2 := below_size b0
          replace n9 := Kd.N_below n9 (below_grown hgr)
          have hl2 := hgr.size
          refine one_ (i := 3) (N := some 48) #[true, true, true, true, true, true, true, true, true, true, false, false, false] rfl rfl (one_of HT_.out (by kernel_rfl)) (by decide) (fun K hK => ?_)
          replace hK := Aside0.mk hK
          refine Kd.N_append_rows_step k34 (w0 := wd) wd.heap.size (by rfl) (.tmp 45) (.tmp 47) 25 34 (.agg #[(.string ⟨#[]⟩), (.bool false), (.slice none 0 0), (.slice none 0 0), (.slice none 0 0), (.slice none 0 0)]) 120 rfl Try.underlying25 info34 rfl (by decide) (by omega) v45 [] p4 P4 p4.length e4 (fun k => k ≠ gm) (fun k => k < b.heap.size) rfl rfl n0 (Kd.F_below (Kd.C_F heap34 K4.out) (below_step BW.out b0)) ?aK ?aF b0 ?hb ?aL ?_
          (case aK => exact fun k hk => ⟨by omega, fun e_ => by have := Kd.N_base n0 k e_.symm; omega⟩)
          (case aF => exact fun k hk => by have := below_size b0; show k ≠ gm; omega)
          (case hb => exact below_size b0)
          (case aL => simp only [List.length_nil]; omega)
          intro v48 w3 n3 b3 hgr3 hat3
          rw [List.nil_append] at n3
          refine hK.out _ _ ⟨Bc (below_step BW.out b3) CP4.out, Bc (below_step BW.out b3) CQ4.out, Bc (below_step BW.out b3) HX0.out, Bc (below_step BW.out b3) HX1.out, Bc (below_step BW.out b3) HX2.out, Bc (below_step BW.out b3) HX3.out, Bc (below_step BW.out b3) HX4.out, Bc (below_step BW.out b3) HX5.out⟩ (fun hHeld => ?_)
          refine norm_ (a' := ?_) ?_ ?_
          rotate_left
          · show Act.put _ (some 48) _ = _
            simp only [Act.put, List.setIfInBounds_toArray, List.set_cons_zero, List.set_cons_succ, i64_w, i32_w]
            rfl
          refine norm_ ?_ (hJ (v45, v48, v54) w3 ⟨b3, wd.heap.size, Nat.le_refl _, Kd.N_grown n9 hgr3 (fun k hk e_ => by have h1 := hba k e_.symm; have h2 := hne k e_.symm; omega), n3, fun k hk => by
            rcases hat3 with h | ⟨z, hz, hz2⟩
            · rw [h] at hk; exact hne k hk
            · rw [hz] at hk; injection hk with hk; omega⟩)
          simp only [putAll, Act.put, List.setIfInBounds_toArray, List.set_cons_zero, List.set_cons_succ]
      rintro ⟨v45, v48, v54⟩ w11 ⟨b11, g9, hg9, n9, n3, hne⟩
      obtain ⟨A48, c48, rfl⟩ := Kd.N_slice n3
      obtain ⟨A54, c54, rfl⟩ := Kd.N_slice n9
      replace hHeld : w11.cell? ⟨gp, 4, none⟩ = some (.slice P4 p4.length e4) ∧ w11.cell? ⟨gq, 4, none⟩ = some (.slice (some ad) q4.length d4) ∧ w11.cell? (ad.add (kk * 6)) = some (.string x.f0) ∧ w11.cell? ⟨(ad.add (kk * 6)).block, (ad.add (kk * 6)).off + 1, none⟩ = some (.bool x.f1) ∧ w11.cell? ⟨(ad.add (kk * 6)).block, (ad.add (kk * 6)).off + 2, none⟩ = some (.slice A6 x.f2.length c6) ∧ w11.cell? ⟨(ad.add (kk * 6)).block, (ad.add (kk * 6)).off + 3, none⟩ = some (.slice A7 x.f3.length c7) ∧ w11.cell? ⟨(ad.add (kk * 6)).block, (ad.add (kk * 6)).off + 4, none⟩ = some (.slice A8 x.f4.length c8) ∧ w11.cell? ⟨(ad.add (kk * 6)).block, (ad.add (kk * 6)).off + 5, none⟩ = some (.slice A9 x.f5.length c9) := ⟨Bc (below_step BW.out b11) CP4.out, Bc (below_step BW.out b11) CQ4.out, Bc (below_step BW.out b11) HX0.out, Bc (below_step BW.out b11) HX1.out, Bc (below_step BW.out b11) HX2.out, Bc (below_step BW.out b11) HX3.out, Bc (below_step BW.out b11) HX4.out, Bc (below_step BW.out b11) HX5.out⟩
      have hgm1 := below_size b11
      refine norm_ (a' := ?_) ?_ ?_
      rotate_left
      · simp only [putAll, Act.put, List.setIfInBounds_toArray, List.set_cons_zero, List.set_cons_succ]
        rfl
      obtain ⟨Lx, hLx⟩ : ∃ L, L = p4 ++ ([x] : List S34) := ⟨_, rfl⟩
      refine one_ (i := 10) (N := some 55) #[true, true, true, true, true, true, true, true, true, true, true, false, false] rfl rfl (one_of HT_.out (by kernel_rfl)) (by decide) (fun K hK => ?_)
      replace hK := Aside0.mk hK
      refine Kd.N_append_rows_step k34 (w0 := wd) wd.heap.size (by rfl) (.tmp 48) (.tmp 54) 25 34 (.agg #[(.string ⟨#[]⟩), (.bool false), (.slice none 0 0), (.slice none 0 0), (.slice none 0 0), (.slice none 0 0)]) 120 rfl Try.underlying25 info34 rfl (by decide) (by omega) (.slice A48 p4.length c48) p4 ([x] : List S34) A54 1 c54 (fun k => k ≠ gm) (fun k => k < b.heap.size ∨ k = g9) rfl rfl n3 (Kd.N_F n9) ?aK ?aF b11 ?hb ?aL ?_
      (case aK => exact fun k hk => ⟨by omega, fun e_ => by have h1 := Kd.N_base n3 k e_.symm; have h2 := hne k e_.symm; omega⟩)
      (case aF => exact fun k hk => by show k ≠ gm; omega)
      (case hb => exact hgm1)
      (case aL => omega)
      intro v55 w12 n5 b5 hgr5 hat5
      rw [← hLx] at n5
      obtain ⟨A55, c55, rfl⟩ := Kd.N_slice n5
      have BM12 := Aside0.mk (blk_below BM.out b5)
      have tm : w12.cell? ⟨gm, 4, none⟩ = some (.slice P4 p4.length e4) := (blk_cell BM12.out 4).trans rfl
      have tf := blk_frozen BM12.out 4
      refine hK.out _ _ ⟨Bc (below_step BW.out b5) CP4.out, Bc (below_step BW.out b5) CQ4.out, Bc (below_step BW.out b5) HX0.out, Bc (below_step BW.out b5) HX1.out, Bc (below_step BW.out b5) HX2.out, Bc (below_step BW.out b5) HX3.out, Bc (below_step BW.out b5) HX4.out, Bc (below_step BW.out b5) HX5.out⟩ (fun hHeld => ?_)
      clear hK K
      refine norm_ (a' := ?_) ?_ ?_
      rotate_left
      · show Act.put _ (some 55) _ = _
        simp only [Act.put, List.setIfInBounds_toArray, List.set_cons_zero, List.set_cons_succ, i64_w, i32_w]
        rfl
      have BW12 := Aside0.mk (below_step BW.out b5)
      have N12 := Aside0.mk n5
      have HLX := Aside0.mk hLx
      clear n5 b5 hgr5 hat5 n3 n9 b11 hgm1 hne hg9 hLx BM BW hgm hgb hbd
      refine pure_ (i := 11) (N := some 56) (v := ?_) (a' := ?_) #[true, true, true, true, true, true, true, true, true, true, true, true, false] rfl rfl (any_of HT_.out (by kernel_rfl)) (fun _ _ _ h => h) (Or.inl ⟨by rfl, ?_⟩) ?_ ?_
      rotate_left
      · intro w'
        go_simp
        with_reducible rfl
      rotate_left
      · simp only [Act.put, List.setIfInBounds_toArray, List.set_cons_zero, List.set_cons_succ, i64_w, i32_w]
        rfl
      refine last_ (i := 12) (N := none) #[true, true, true, true, true, true, true, true, true, true, true, true, true] rfl rfl (one_of HT_.out (by kernel_rfl)) (by decide) (fun K hK => ?_)
      refine skip_ (w1 := ?_) (by rfl) rfl ?_ ?_
      rotate_left
      · go_simp
        rfl
      refine hK _ _ ?_
      refine done_ (done_of HT_.out (by kernel_rfl)) ?_
      have BW := Aside0.mk (show Below b.heap.size b (w12.setCell ⟨gm, 4, none⟩ (.slice A55 Lx.length c55)) from below_set BW12.out GM.out)
      have BM := Aside0.mk (show (w12.setCell ⟨gm, 4, none⟩ (.slice A55 Lx.length c55)).heap[gm]? = some (.cells #[.slice P0 p0.length e0, .slice P1 p1.length e1, .slice P2 p2.length e2, .slice P3 p3.length e3, .slice A55 Lx.length c55, .slice P5 p5.length e5] 28 (0, 0)) from blk_put BM12.out 4 _ rfl)
      have CX := Aside0.mk (Kd.N_reads' (Kd.N_far (p := ⟨gm, 4, none⟩) N12.out (fun k hk => hk) (.slice A55 Lx.length c55))).2
      generalize w12.setCell ⟨gm, 4, none⟩ (.slice A55 Lx.length c55) = w13 at BW BM CX ⊢
      clear BW12 BM12 N12 tm tf hHeld hK K HT_ HW_
      have HY := HSX
      clear HSX
      rw [← HLX.out] at HY
      obtain ⟨now, hnow⟩ : ∃ now, now = nS x := ⟨_, rfl⟩
      rw [← hnow] at HY
      clear hnow
      have fm0 : w13.cell? ⟨gm, 0, none⟩ = some (.slice P0 p0.length e0) := (blk_cell BM.out 0).trans rfl
      have fm1 : w13.cell? ⟨gm, 1, none⟩ = some (.slice P1 p1.length e1) := (blk_cell BM.out 1).trans rfl
      have fm2 : w13.cell? ⟨gm, 2, none⟩ = some (.slice P2 p2.length e2) := (blk_cell BM.out 2).trans rfl
      have fm3 : w13.cell? ⟨gm, 3, none⟩ = some (.slice P3 p3.length e3) := (blk_cell BM.out 3).trans rfl
      have fm4 : w13.cell? ⟨gm, 4, none⟩ = some (.slice A55 Lx.length c55) := (blk_cell BM.out 4).trans rfl
      have fm5 : w13.cell? ⟨gm, 5, none⟩ = some (.slice P5 p5.length e5) := (blk_cell BM.out 5).trans rfl
      have fa1 := Bc BW.out CA1.out
      have fa2 := Bc BW.out CA2.out
      have fa3 := Bc BW.out CA3.out
      go_upto_region 10 with (go_at_call 9; with_reducible refine (glob_May.calls k _ _ p0 _ _ p1 _ _ p2 _ _ p3 _ _ Lx _ _ p5 u a o now _ (Kd.C_below K0.out BW.out) mP0 (Kd.C_below K1.out BW.out) mP1 (Kd.C_below K2.out BW.out) mP2 (Kd.C_below K3.out BW.out) mP3 CX.out.2 CX.out.1 (Kd.C_below K5.out BW.out) mP5 HY.out.1).mono ?_; rintro e w14 ⟨rfl, hb⟩; have B14 := Aside0.mk (below_step BW.out hb); clear hb)
      clear fm0 fm1 fm2 fm3 fm4 fm5 fa1 fa2 fa3 BM CX BW
      have fq4 := Bc B14.out CQ4.out
      have fx1 := Bc B14.out HX1.out
      have HL := Aside0.mk HY.out.2
      clear HY HLX
      obtain ⟨dy, hdy⟩ : ∃ dy, dy = x.f1 := ⟨_, rfl⟩
      rw [← hdy] at HL fx1
      clear hdy
      have hno : (dy && now && !was || !dy && was && !now) = false := by
        obtain ⟨h1, h2⟩ := HL.out
        cases dy <;> cases now <;> cases was <;> first | rfl | (exact absurd (h1 rfl rfl) (by decide)) | (exact absurd (h2 rfl rfl) (by decide))
      clear HL
      go_wp2
      all_goals
        first
          | (exfalso; have a1 : dy = true := (by assumption); have a2 : now = true := (by assumption); have a3 : ¬ was = true := (by assumption); rw [a1, a2, Bool.eq_false_iff.2 a3] at hno; simp at hno)
          | (exfalso; have a1 : ¬ dy = true := (by assumption); have a2 : (!now) = true := (by assumption); have a3 : was = true := (by assumption); rw [Bool.eq_false_iff.2 a1, a2, a3] at hno; simp at hno)
          | ((first | (have a3 : was = true := (by assumption); subst a3) | (have a3 : ¬ was = true := (by assumption); obtain rfl := Bool.eq_false_iff.2 a3) | skip); go_roundg (q4.length - (kk + 1)); (case measure => omega); (case rel => exact ⟨kk + 1, by omega, by omega, by go_num, B14⟩))
    · have hltz : ¬ (kk : Int) < (q4.length : Int) := by omega
      obtain rfl : kk = q4.length := by omega
      clear HS M4
      go_wp2
      go_loopg [14, 15] p5.length (fun gg s14 s15 wr => ∃ kk : Nat, kk ≤ p5.length ∧ p5.length - kk ≤ gg ∧ s14 = .bool ((p5.take kk).all fun y => y.f0.toList != u.toList) ∧ s15 = .int .i64 kk ∧ Aside0 (Below b.heap.size b wr))
      case atStart => exact ⟨0, Nat.zero_le _, by omega, rfl, rfl, BR⟩
      case round =>
        clear BR fq4
        obtain ⟨kk, hkk, hgk, hfr, rfl, BR⟩ := hrel
        obtain ⟨fr, hfe⟩ : ∃ fr, fr = ((p5.take kk).all fun y => y.f0.toList != u.toList) := ⟨_, rfl⟩
        rw [← hfe] at hfr
        subst hfr
        have HFE := Aside0.mk hfe
        clear hfe
        have fp5 := Bc BR.out CP5.out
        have fa1 := Bc BR.out CA1.out
        by_cases hlt : kk < p5.length
        · have hltz : (kk : Int) < (p5.length : Int) := by omega
          have pz : (0 ≤ (kk : Int)) = True := eq_true (by omega)
          have qz : ((kk : Int) < (p5.length : Int)) = True := eq_true hltz
          obtain ⟨ad, A6, c6, A7, c7, rfl, hx0, hx1, hx2, hl1, hi1, hl2, hi2⟩ := at_T51 K5.out (kk : Int) (by omega) hltz
          have hy : rd_T51 p5 (kk : Int) = p5[kk] := by
            unfold rd_T51
            rw [Int.toNat_natCast, List.getD_eq_getElem?_getD, List.getElem?_eq_getElem hlt]; rfl
          rw [hy] at hx0 hx1 hx2 hl1 hi1 hl2 hi2
          rw [Int.toNat_natCast] at hx0 hx1 hx2
          obtain ⟨x, hxx⟩ : ∃ x, x = p5[kk] := ⟨_, rfl⟩
          rw [← hxx] at hx0 hx1 hx2 hl1 hi1 hl2 hi2
          have HX := Aside0.mk hxx
          have fx0 := Bc BR.out hx0
          clear hx0 hx1 hx2 hl1 hi1 hl2 hi2 hy hxx
          go_upto_region 16 with (fail)
          have BD := Aside0.mk (below_drew1 BR.out)
          have HD := Aside0.mk (show wr.drew.cell? ⟨gp, 5, none⟩ = some (.slice (some ad) p5.length e5) ∧ wr.drew.cell? (ad.add (kk * 3)) = some (.string x.f0) ∧ wr.drew.cell? ⟨ga, 1, none⟩ = some (.string u) from ⟨fp5, fx0, fa1⟩)
          clear BR fp5 fa1 fx0
          cases fr
          · refine start_ (n := 13) (S := fun w' => w'.cell? ⟨gp, 5, none⟩ = some (.slice (some ad) p5.length e5) ∧ w'.cell? (ad.add (kk * 3)) = some (.string x.f0) ∧ w'.cell? ⟨ga, 1, none⟩ = some (.string u)) (ds := []) #[false, false, false, false, false, false, false, false, false, false, false, false, false] (by kernel_rfl) rfl rfl HD.out (fun hHeld => ?_); refine with_tabW gu.tab16 gu.bits16 (fun HT_ HW_ => ?_)
            generalize wr.drew = w15 at BD hHeld ⊢
            refine pure_ (i := 0) (N := some 101) (v := ?_) (a' := ?_) #[true, false, false, false, false, false, false, false, false, false, false, false, false] rfl rfl (any_of HT_.out (by kernel_rfl)) (fun _ _ _ h => h) (Or.inl ⟨by rfl, ?_⟩) ?_ ?_
            rotate_left
            · intro w'
              go_simp
              with_reducible rfl
            rotate_left
            · simp only [Act.put, List.setIfInBounds_toArray, List.set_cons_zero, List.set_cons_succ, i64_w, i32_w]
              rfl
            refine pure_ (i := 1) (N := some 102) (v := ?_) (a' := ?_) #[true, true, false, false, false, false, false, false, false, false, false, false, false] rfl rfl (any_of HT_.out (by kernel_rfl)) (fun _ _ _ h => h) (Or.inl ⟨by rfl, ?_⟩) ?_ ?_
            rotate_left
            · intro w'
              go_simp
              with_reducible rfl
            rotate_left
            · simp only [Act.put, List.setIfInBounds_toArray, List.set_cons_zero, List.set_cons_succ, i64_w, i32_w]
              rfl
            refine pure_ (i := 2) (N := some 103) (v := undef) (a' := ?_) #[true, true, true, false, false, false, false, false, false, false, false, false, false] rfl rfl (any_of HT_.out (by kernel_rfl)) (fun _ _ _ h => h) (Or.inr ⟨by rfl, rfl⟩) ?_ ?_
            rotate_left
            · simp only [Act.put, List.setIfInBounds_toArray, List.set_cons_zero, List.set_cons_succ, i64_w, i32_w]
              rfl
            refine pure_ (i := 3) (N := some 104) (v := undef) (a' := ?_) #[true, true, true, true, false, false, false, false, false, false, false, false, false] rfl rfl (any_of HT_.out (by kernel_rfl)) (fun _ _ _ h => h) (Or.inr ⟨by rfl, rfl⟩) ?_ ?_
            rotate_left
            · simp only [Act.put, List.setIfInBounds_toArray, List.set_cons_zero, List.set_cons_succ, i64_w, i32_w]
              rfl
            refine pure_ (i := 4) (N := some 105) (v := undef) (a' := ?_) #[true, true, true, true, true, false, false, false, false, false, false, false, false] rfl rfl (any_of HT_.out (by kernel_rfl)) (fun _ _ _ h => h) (Or.inr ⟨by rfl, rfl⟩) ?_ ?_
            rotate_left
            · simp only [Act.put, List.setIfInBounds_toArray, List.set_cons_zero, List.set_cons_succ, i64_w, i32_w]
              rfl
            refine pure_ (i := 5) (N := some 106) (v := undef) (a' := ?_) #[true, true, true, true, true, true, false, false, false, false, false, false, false] rfl rfl (any_of HT_.out (by kernel_rfl)) (fun _ _ _ h => h) (Or.inr ⟨by rfl, rfl⟩) ?_ ?_
            rotate_left
            · simp only [Act.put, List.setIfInBounds_toArray, List.set_cons_zero, List.set_cons_succ, i64_w, i32_w]
              rfl
            refine pure_ (i := 6) (N := some 107) (v := undef) (a' := ?_) #[true, true, true, true, true, true, true, false, false, false, false, false, false] rfl rfl (any_of HT_.out (by kernel_rfl)) (fun _ _ _ h => h) (Or.inr ⟨by rfl, rfl⟩) ?_ ?_
            rotate_left
            · simp only [Act.put, List.setIfInBounds_toArray, List.set_cons_zero, List.set_cons_succ, i64_w, i32_w]
              rfl
            refine pure_ (i := 7) (N := some 108) (v := undef) (a' := ?_) #[true, true, true, true, true, true, true, true, false, false, false, false, false] rfl rfl (any_of HT_.out (by kernel_rfl)) (fun _ _ _ h => h) (Or.inr ⟨by rfl, rfl⟩) ?_ ?_
            rotate_left
            · simp only [Act.put, List.setIfInBounds_toArray, List.set_cons_zero, List.set_cons_succ, i64_w, i32_w]
              rfl
            refine pure_ (i := 8) (N := some 109) (v := undef) (a' := ?_) #[true, true, true, true, true, true, true, true, true, false, false, false, false] rfl rfl (any_of HT_.out (by kernel_rfl)) (fun _ _ _ h => h) (Or.inr ⟨by rfl, rfl⟩) ?_ ?_
            rotate_left
            · simp only [Act.put, List.setIfInBounds_toArray, List.set_cons_zero, List.set_cons_succ, i64_w, i32_w]
              rfl
            refine pure_ (i := 9) (N := some 110) (v := undef) (a' := ?_) #[true, true, true, true, true, true, true, true, true, true, false, false, false] rfl rfl (any_of HT_.out (by kernel_rfl)) (fun _ _ _ h => h) (Or.inr ⟨by rfl, rfl⟩) ?_ ?_
            rotate_left
            · simp only [Act.put, List.setIfInBounds_toArray, List.set_cons_zero, List.set_cons_succ, i64_w, i32_w]
              rfl
            refine pure_ (i := 10) (N := some 111) (v := undef) (a' := ?_) #[true, true, true, true, true, true, true, true, true, true, true, false, false] rfl rfl (any_of HT_.out (by kernel_rfl)) (fun _ _ _ h => h) (Or.inr ⟨by rfl, rfl⟩) ?_ ?_
            rotate_left
            · simp only [Act.put, List.setIfInBounds_toArray, List.set_cons_zero, List.set_cons_succ, i64_w, i32_w]
              rfl
            refine pure_ (i := 11) (N := some 112) (v := ?_) (a' := ?_) #[true, true, true, true, true, true, true, true, true, true, true, true, false] rfl rfl (any_of HT_.out (by kernel_rfl)) (fun _ _ _ h => h) (Or.inl ⟨by rfl, ?_⟩) ?_ ?_
            rotate_left
            · intro w'
              go_simp
              with_reducible rfl
            rotate_left
            · simp only [Act.put, List.setIfInBounds_toArray, List.set_cons_zero, List.set_cons_succ, i64_w, i32_w]
              rfl
            refine pure_ (i := 12) (N := some 14) (v := ?_) (a' := ?_) #[true, true, true, true, true, true, true, true, true, true, true, true, true] rfl rfl (any_of HT_.out (by kernel_rfl)) (fun _ _ _ h => h) (Or.inl ⟨by rfl, ?_⟩) ?_ ?_
            rotate_left
            · intro w'
              go_simp
              with_reducible rfl
            rotate_left
            · simp only [Act.put, List.setIfInBounds_toArray, List.set_cons_zero, List.set_cons_succ, i64_w, i32_w]
              rfl
            refine done_ (done_of HT_.out (by kernel_rfl)) ?_
            go_wp2
            go_roundg (p5.length - (kk + 1))
            case measure => omega
            case rel =>
              refine ⟨kk + 1, by omega, by omega, ?_, by go_num, BD⟩
              congr 1
              rw [List.take_succ_eq_append_getElem hlt, List.all_append, ← HFE.out, ← HX.out]
              simp only [List.all_cons, List.all_nil, Bool.and_true, Bool.true_and, Bool.false_and]
          · refine start_ (n := 13) (S := fun w' => w'.cell? ⟨gp, 5, none⟩ = some (.slice (some ad) p5.length e5) ∧ w'.cell? (ad.add (kk * 3)) = some (.string x.f0) ∧ w'.cell? ⟨ga, 1, none⟩ = some (.string u)) (ds := []) #[false, false, false, false, false, false, false, false, false, false, false, false, false] (by kernel_rfl) rfl rfl HD.out (fun hHeld => ?_); refine with_tabW gu.tab16 gu.bits16 (fun HT_ HW_ => ?_)
            generalize wr.drew = w15 at BD hHeld ⊢
            refine pure_ (i := 0) (N := some 101) (v := ?_) (a' := ?_) #[true, false, false, false, false, false, false, false, false, false, false, false, false] rfl rfl (any_of HT_.out (by kernel_rfl)) (fun _ _ _ h => h) (Or.inl ⟨by rfl, ?_⟩) ?_ ?_
            rotate_left
            · intro w'
              go_simp
              with_reducible rfl
            rotate_left
            · simp only [Act.put, List.setIfInBounds_toArray, List.set_cons_zero, List.set_cons_succ, i64_w, i32_w]
              rfl
            refine pure_ (i := 1) (N := some 102) (v := ?_) (a' := ?_) #[true, true, false, false, false, false, false, false, false, false, false, false, false] rfl rfl (any_of HT_.out (by kernel_rfl)) (fun _ _ _ h => h) (Or.inl ⟨by rfl, ?_⟩) ?_ ?_
            rotate_left
            · intro w'
              go_simp
              with_reducible rfl
            rotate_left
            · simp only [Act.put, List.setIfInBounds_toArray, List.set_cons_zero, List.set_cons_succ, i64_w, i32_w]
              rfl
            refine pure_ (i := 2) (N := some 103) (v := ?_) (a' := ?_) #[true, true, true, false, false, false, false, false, false, false, false, false, false] rfl rfl (any_of HT_.out (by kernel_rfl)) (fun _ _ _ h => h) (Or.inl ⟨by rfl, ?_⟩) ?_ ?_
            rotate_left
            · intro w'
              go_simp
              with_reducible rfl
            rotate_left
            · simp only [Act.put, List.setIfInBounds_toArray, List.set_cons_zero, List.set_cons_succ, i64_w, i32_w]
              rfl
            refine take_ (i := 3) (N := some 104) (v := ?_) (a' := ?_) #[true, true, true, true, false, false, false, false, false, false, false, false, false] rfl rfl (take_ofW HT_.out HW_.out (by kernel_rfl)) (fun _ _ _ h => h) (Or.inl ⟨by rfl, ?_⟩) hHeld ?_ ?_
            rotate_left
            · rintro w' ⟨s0, s1, s2⟩
              go_simp
              with_reducible rfl
            rotate_left
            · simp only [Act.put, List.setIfInBounds_toArray, List.set_cons_zero, List.set_cons_succ, i64_w, i32_w]
              rfl
            refine pure_ (i := 4) (N := some 105) (v := ?_) (a' := ?_) #[true, true, true, true, true, false, false, false, false, false, false, false, false] rfl rfl (any_of HT_.out (by kernel_rfl)) (fun _ _ _ h => h) (Or.inl ⟨by rfl, ?_⟩) ?_ ?_
            rotate_left
            · intro w'
              go_simp
              with_reducible rfl
            rotate_left
            · simp only [Act.put, List.setIfInBounds_toArray, List.set_cons_zero, List.set_cons_succ, i64_w, i32_w]
              rfl
            refine pure_ (i := 5) (N := some 106) (v := ?_) (a' := ?_) #[true, true, true, true, true, true, false, false, false, false, false, false, false] rfl rfl (any_of HT_.out (by kernel_rfl)) (fun _ _ _ h => h) (Or.inl ⟨by rfl, ?_⟩) ?_ ?_
            rotate_left
            · intro w'
              go_simp
              with_reducible rfl
            rotate_left
            · simp only [Act.put, List.setIfInBounds_toArray, List.set_cons_zero, List.set_cons_succ, i64_w, i32_w]
              rfl
            refine pure_ (i := 6) (N := some 107) (v := ?_) (a' := ?_) #[true, true, true, true, true, true, true, false, false, false, false, false, false] rfl rfl (any_of HT_.out (by kernel_rfl)) (fun _ _ _ h => h) (Or.inl ⟨by rfl, ?_⟩) ?_ ?_
            rotate_left
            · intro w'
              go_simp
              with_reducible rfl
            rotate_left
            · simp only [Act.put, List.setIfInBounds_toArray, List.set_cons_zero, List.set_cons_succ, i64_w, i32_w]
              rfl
            refine take_ (i := 7) (N := some 108) (v := ?_) (a' := ?_) #[true, true, true, true, true, true, true, true, false, false, false, false, false] rfl rfl (take_ofW HT_.out HW_.out (by kernel_rfl)) (fun _ _ _ h => h) (Or.inl ⟨by rfl, ?_⟩) hHeld ?_ ?_
            rotate_left
            · rintro w' ⟨s0, s1, s2⟩
              go_simp
              with_reducible rfl
            rotate_left
            · simp only [Act.put, List.setIfInBounds_toArray, List.set_cons_zero, List.set_cons_succ, i64_w, i32_w]
              rfl
            refine pure_ (i := 8) (N := some 109) (v := ?_) (a' := ?_) #[true, true, true, true, true, true, true, true, true, false, false, false, false] rfl rfl (any_of HT_.out (by kernel_rfl)) (fun _ _ _ h => h) (Or.inl ⟨by rfl, ?_⟩) ?_ ?_
            rotate_left
            · intro w'
              go_simp
              with_reducible rfl
            rotate_left
            · simp only [Act.put, List.setIfInBounds_toArray, List.set_cons_zero, List.set_cons_succ, i64_w, i32_w]
              rfl
            refine take_ (i := 9) (N := some 110) (v := ?_) (a' := ?_) #[true, true, true, true, true, true, true, true, true, true, false, false, false] rfl rfl (take_ofW HT_.out HW_.out (by kernel_rfl)) (fun _ _ _ h => h) (Or.inl ⟨by rfl, ?_⟩) hHeld ?_ ?_
            rotate_left
            · rintro w' ⟨s0, s1, s2⟩
              go_simp
              with_reducible rfl
            rotate_left
            · simp only [Act.put, List.setIfInBounds_toArray, List.set_cons_zero, List.set_cons_succ, i64_w, i32_w]
              rfl
            refine pure_ (i := 10) (N := some 111) (v := ?_) (a' := ?_) #[true, true, true, true, true, true, true, true, true, true, true, false, false] rfl rfl (any_of HT_.out (by kernel_rfl)) (fun _ _ _ h => h) (Or.inl ⟨by rfl, ?_⟩) ?_ ?_
            rotate_left
            · intro w'
              go_simp
              with_reducible rfl
            rotate_left
            · simp only [Act.put, List.setIfInBounds_toArray, List.set_cons_zero, List.set_cons_succ, i64_w, i32_w]
              rfl
            refine pure_ (i := 11) (N := some 112) (v := ?_) (a' := ?_) #[true, true, true, true, true, true, true, true, true, true, true, true, false] rfl rfl (any_of HT_.out (by kernel_rfl)) (fun _ _ _ h => h) (Or.inl ⟨by rfl, ?_⟩) ?_ ?_
            rotate_left
            · intro w'
              go_simp
              with_reducible rfl
            rotate_left
            · simp only [Act.put, List.setIfInBounds_toArray, List.set_cons_zero, List.set_cons_succ, i64_w, i32_w]
              rfl
            refine pure_ (i := 12) (N := some 14) (v := ?_) (a' := ?_) #[true, true, true, true, true, true, true, true, true, true, true, true, true] rfl rfl (any_of HT_.out (by kernel_rfl)) (fun _ _ _ h => h) (Or.inl ⟨by rfl, ?_⟩) ?_ ?_
            rotate_left
            · intro w'
              go_simp
              with_reducible rfl
            rotate_left
            · simp only [Act.put, List.setIfInBounds_toArray, List.set_cons_zero, List.set_cons_succ, i64_w, i32_w]
              rfl
            refine done_ (done_of HT_.out (by kernel_rfl)) ?_
            go_wp2
            go_roundg (p5.length - (kk + 1))
            case measure => omega
            case rel =>
              refine ⟨kk + 1, by omega, by omega, ?_, by go_num, BD⟩
              congr 1
              rw [List.take_succ_eq_append_getElem hlt, List.all_append, ← HFE.out, ← HX.out]
              simp only [List.all_cons, List.all_nil, Bool.and_true, Bool.true_and, Bool.false_and]
              first | done | rfl
        · have hltz : ¬ (kk : Int) < (p5.length : Int) := by omega
          obtain rfl : kk = p5.length := by omega
          rw [List.take_length] at HFE
          go_wp2
          go_loopg [16] q5.length (fun gg s16 wr => ∃ kk : Nat, kk ≤ q5.length ∧ q5.length - kk ≤ gg ∧ s16 = .int .i64 kk ∧ Aside0 (Below b.heap.size b wr))
          case atStart => exact ⟨0, Nat.zero_le _, by omega, rfl, BR⟩
          case round =>
            clear BR fp5 fa1
            obtain ⟨kk, hkk, hgk, rfl, BR⟩ := hrel
            have fq5 := Bc BR.out CQ5.out
            by_cases hlt : kk < q5.length
            · have hltz : (kk : Int) < (q5.length : Int) := by omega
              have pz : (0 ≤ (kk : Int)) = True := eq_true (by omega)
              have qz : ((kk : Int) < (q5.length : Int)) = True := eq_true hltz
              obtain ⟨ad, A6, c6, A7, c7, rfl, hx0, hx1, hx2, hl1, hi1, hl2, hi2⟩ := at_T51 M5.out (kk : Int) (by omega) hltz
              have hy : rd_T51 q5 (kk : Int) = q5[kk] := by
                unfold rd_T51
                rw [Int.toNat_natCast, List.getD_eq_getElem?_getD, List.getElem?_eq_getElem hlt]; rfl
              rw [hy] at hx0 hx1 hx2 hl1 hi1 hl2 hi2
              rw [Int.toNat_natCast] at hx0 hx1 hx2
              obtain ⟨x, hxx⟩ : ∃ x, x = q5[kk] := ⟨_, rfl⟩
              rw [← hxx] at hx0 hx1 hx2 hl1 hi1 hl2 hi2
              have HX := Aside0.mk hxx
              have HBX := Aside0.mk (HBD.out x (by rw [hxx]; exact List.getElem_mem _))
              have I1 := Aside0.mk (And.intro hl1 hi1)
              have I2 := Aside0.mk (And.intro hl2 hi2)
              have HX0 := Aside0.mk hx0
              have HX1 := Aside0.mk hx1
              have HX2 := Aside0.mk hx2
              clear hi1 hi2 hl1 hl2 hy hxx hx0 hx1 hx2 HX
              go_upto_region 20 with (fail)
              have fp0 := Bc BR.out CP0.out
              have fp1 := Bc BR.out CP1.out
              have fp2 := Bc BR.out CP2.out
              have fp3 := Bc BR.out CP3.out
              have fp4 := Bc BR.out CP4.out
              have fp5 := Bc BR.out CP5.out
              go_upto_region 21 with (first | ((with_reducible refine gate_dst (N := 17) rfl ?_); (try (refine gate_guard (by rfl) ?_; dsimp only)); refine box_event ?hg (N := 17) ?hd (cs := #[.slice none 0 0, .slice none 0 0, .slice none 0 0, .slice none 0 0, .slice none 0 0, .slice none 0 0]) (t := 28) ?hr ?_; (case hd => rfl); (case hg => rfl); (case hr => first | (go_simp; done) | (go_simp; rfl)); intro gm hg w10 hbox hb; have BM := Aside0.mk hbox; have BW := Aside0.mk (below_step BR.out hb); have GM := Aside0.mk ((by rw [hg]; exact below_size BR.out) : b.heap.size ≤ gm); have hcgm0 : w10.cell? ⟨gm, 0, none⟩ = some (.slice none 0 0) := (blk_cell BM.out 0).trans rfl; have hfcgm0 := blk_frozen BM.out 0; have hcgm1 : w10.cell? ⟨gm, 1, none⟩ = some (.slice none 0 0) := (blk_cell BM.out 1).trans rfl; have hfcgm1 := blk_frozen BM.out 1; have hcgm2 : w10.cell? ⟨gm, 2, none⟩ = some (.slice none 0 0) := (blk_cell BM.out 2).trans rfl; have hfcgm2 := blk_frozen BM.out 2; have hcgm3 : w10.cell? ⟨gm, 3, none⟩ = some (.slice none 0 0) := (blk_cell BM.out 3).trans rfl; have hfcgm3 := blk_frozen BM.out 3; have hcgm4 : w10.cell? ⟨gm, 4, none⟩ = some (.slice none 0 0) := (blk_cell BM.out 4).trans rfl; have hfcgm4 := blk_frozen BM.out 4; have hcgm5 : w10.cell? ⟨gm, 5, none⟩ = some (.slice none 0 0) := (blk_cell BM.out 5).trans rfl; have hfcgm5 := blk_frozen BM.out 5; clear hg hbox hb))
              replace BW := Aside0.mk (show Below b.heap.size b ((((((w10.setCell ⟨gm, 0, none⟩ (.slice P0 p0.length e0)).setCell ⟨gm, 1, none⟩ (.slice P1 p1.length e1)).setCell ⟨gm, 2, none⟩ (.slice P2 p2.length e2)).setCell ⟨gm, 3, none⟩ (.slice P3 p3.length e3)).setCell ⟨gm, 4, none⟩ (.slice P4 p4.length e4)).setCell ⟨gm, 5, none⟩ (.slice P5 p5.length e5)) from below_set (below_set (below_set (below_set (below_set (below_set (BW.out) GM.out) GM.out) GM.out) GM.out) GM.out) GM.out)
              replace BM := Aside0.mk (show ((((((w10.setCell ⟨gm, 0, none⟩ (.slice P0 p0.length e0)).setCell ⟨gm, 1, none⟩ (.slice P1 p1.length e1)).setCell ⟨gm, 2, none⟩ (.slice P2 p2.length e2)).setCell ⟨gm, 3, none⟩ (.slice P3 p3.length e3)).setCell ⟨gm, 4, none⟩ (.slice P4 p4.length e4)).setCell ⟨gm, 5, none⟩ (.slice P5 p5.length e5)).heap[gm]? = some (.cells #[.slice P0 p0.length e0, .slice P1 p1.length e1, .slice P2 p2.length e2, .slice P3 p3.length e3, .slice P4 p4.length e4, .slice P5 p5.length e5] 28 (0, 0)) from blk_put (blk_put (blk_put (blk_put (blk_put (blk_put (BM.out) 0 _ rfl) 1 _ rfl) 2 _ rfl) 3 _ rfl) 4 _ rfl) 5 _ rfl)
              generalize ((((((w10.setCell ⟨gm, 0, none⟩ (.slice P0 p0.length e0)).setCell ⟨gm, 1, none⟩ (.slice P1 p1.length e1)).setCell ⟨gm, 2, none⟩ (.slice P2 p2.length e2)).setCell ⟨gm, 3, none⟩ (.slice P3 p3.length e3)).setCell ⟨gm, 4, none⟩ (.slice P4 p4.length e4)).setCell ⟨gm, 5, none⟩ (.slice P5 p5.length e5)) = w10n at BW BM ⊢
              clear hcgm0 hfcgm0 hcgm1 hfcgm1 hcgm2 hfcgm2 hcgm3 hfcgm3 hcgm4 hfcgm4 hcgm5 hfcgm5 fp0 fp1 fp2 fp3 fp4 fp5
              clear BR fq5
              refine start_ (n := 13) (S := fun w' => w'.cell? ⟨gp, 5, none⟩ = some (.slice P5 p5.length e5) ∧ w'.cell? ⟨gq, 5, none⟩ = some (.slice (some ad) q5.length d5) ∧ w'.cell? (ad.add (kk * 3)) = some (.string x.f0) ∧ w'.cell? ⟨(ad.add (kk * 3)).block, (ad.add (kk * 3)).off + 1, none⟩ = some (.slice A6 x.f1.length c6) ∧ w'.cell? ⟨(ad.add (kk * 3)).block, (ad.add (kk * 3)).off + 2, none⟩ = some (.slice A7 x.f2.length c7)) (ds := [12]) #[false, false, false, false, false, false, false, false, false, false, false, false, false] (by kernel_rfl) rfl rfl ⟨Bc (below_drew1 BW.out) CP5.out, Bc (below_drew1 BW.out) CQ5.out, Bc (below_drew1 BW.out) HX0.out, Bc (below_drew1 BW.out) HX1.out, Bc (below_drew1 BW.out) HX2.out⟩ (fun hHeld => ?_); refine with_tabW gu.tab21 gu.bits21 (fun HT_ HW_ => ?_)
              replace BW := Aside0.mk (below_drew1 BW.out)
              replace BM := Aside0.mk (blk_drew BM.out)
              generalize w10n.drew = wd at BW BM hHeld ⊢
              refine pure_ (i := 1) (N := some 122) (v := ?_) (a' := ?_) #[false, true, false, false, false, false, false, false, false, false, false, false, false] rfl rfl (any_of HT_.out (by kernel_rfl)) (fun _ _ _ h => h) (Or.inl ⟨by rfl, ?_⟩) ?_ ?_
              rotate_left
              · intro w'
                go_simp
                with_reducible rfl
              rotate_left
              · simp only [Act.put, List.setIfInBounds_toArray, List.set_cons_zero, List.set_cons_succ, i64_w, i32_w]
                rfl
              refine take_ (i := 2) (N := some 123) (v := ?_) (a' := ?_) #[false, true, true, false, false, false, false, false, false, false, false, false, false] rfl rfl (take_ofW HT_.out HW_.out (by kernel_rfl)) (fun _ _ _ h => h) (Or.inl ⟨by rfl, ?_⟩) hHeld ?_ ?_
              rotate_left
              · rintro w' ⟨s0, s1, s2, s3, s4⟩
                go_simp
                with_reducible rfl
              rotate_left
              · simp only [Act.put, List.setIfInBounds_toArray, List.set_cons_zero, List.set_cons_succ, i64_w, i32_w]
                rfl
              refine pure_ (i := 4) (N := some 125) (v := ?_) (a' := ?_) #[false, true, true, false, true, false, false, false, false, false, false, false, false] rfl rfl (any_of HT_.out (by kernel_rfl)) (fun _ _ _ h => h) (Or.inl ⟨by rfl, ?_⟩) ?_ ?_
              rotate_left
              · intro w'
                go_simp
                with_reducible rfl
              rotate_left
              · simp only [Act.put, List.setIfInBounds_toArray, List.set_cons_zero, List.set_cons_succ, i64_w, i32_w]
                rfl
              refine take_ (i := 5) (N := some 126) (v := ?_) (a' := ?_) #[false, true, true, false, true, true, false, false, false, false, false, false, false] rfl rfl (take_ofW HT_.out HW_.out (by kernel_rfl)) (fun _ _ _ h => h) (Or.inl ⟨by rfl, ?_⟩) hHeld ?_ ?_
              rotate_left
              · rintro w' ⟨s0, s1, s2, s3, s4⟩
                go_simp
                with_reducible rfl
              rotate_left
              · simp only [Act.put, List.setIfInBounds_toArray, List.set_cons_zero, List.set_cons_succ, i64_w, i32_w]
                rfl
              refine pure_ (i := 6) (N := some 127) (v := ?_) (a' := ?_) #[false, true, true, false, true, true, true, false, false, false, false, false, false] rfl rfl (any_of HT_.out (by kernel_rfl)) (fun _ _ _ h => h) (Or.inl ⟨by rfl, ?_⟩) ?_ ?_
              rotate_left
              · intro w'
                go_simp
                with_reducible rfl
              rotate_left
              · simp only [Act.put, List.setIfInBounds_toArray, List.set_cons_zero, List.set_cons_succ, i64_w, i32_w]
                rfl
              refine pure_ (i := 7) (N := some 128) (v := ?_) (a' := ?_) #[false, true, true, false, true, true, true, true, false, false, false, false, false] rfl rfl (any_of HT_.out (by kernel_rfl)) (fun _ _ _ h => h) (Or.inl ⟨by rfl, ?_⟩) ?_ ?_
              rotate_left
              · intro w'
                go_simp
                with_reducible rfl
              rotate_left
              · simp only [Act.put, List.setIfInBounds_toArray, List.set_cons_zero, List.set_cons_succ, i64_w, i32_w]
                rfl
              refine take_ (i := 8) (N := some 129) (v := ?_) (a' := ?_) #[false, true, true, false, true, true, true, true, true, false, false, false, false] rfl rfl (take_ofW HT_.out HW_.out (by kernel_rfl)) (fun _ _ _ h => h) (Or.inl ⟨by rfl, ?_⟩) hHeld ?_ ?_
              rotate_left
              · rintro w' ⟨s0, s1, s2, s3, s4⟩
                go_simp
                with_reducible rfl
              rotate_left
              · simp only [Act.put, List.setIfInBounds_toArray, List.set_cons_zero, List.set_cons_succ, i64_w, i32_w]
                rfl
              have hgm := blk_lt BM.out
              have hgb := GM.out
              have hbd := below_size BW.out
              refine join_ (σ := Value × Value × Value) 3 #[true, true, true, true, true, true, true, true, true, true, false, false, false] (fun s => [(121, s.1), (124, s.2.1), (130, s.2.2)]) (fun s w' => Below wd.heap.size wd w' ∧ ∃ g9, wd.heap.size ≤ g9 ∧ Kd.N k51 51 w' wd.heap.size (fun k => k < b.heap.size ∨ k = g9) s.2.2 ([x] : List S51) ∧ Kd.N k51 51 w' wd.heap.size (fun k => k ≠ gm) s.2.1 p5 ∧ ∀ k, s.2.1.ownBlock = some k → k ≠ g9) ?_ ?_
              rotate_left
              · intro hJ
                refine two_ (i := 0) (j := 9) (Ni := some 121) (Nj := some 130) #[true, true, true, false, true, true, true, true, true, false, false, false, false] #[false, true, true, false, true, true, true, true, true, true, false, false, false] rfl rfl rfl rfl (two_of HT_.out (by kernel_rfl)) (by decide) (by decide) (fun K hK => ?_) (fun K hK => ?_)
                · replace hK := Aside0.mk hK
                  refine Kd.N_lit_step k51 (w0 := wd) wd.heap.size 51 ?hg (N' := 121) ?hd (xs := ([] : List S51)) (inner := []) (ok := fun k => k ≠ gm) (okp := fun _ => False) ?hr ?hp (fun _ hk => hk.elim) ?hf (Below.refl wd.heap.size wd) ?hb (by simp) ?_
                  (case hd => rfl)
                  (case hg => rfl)
                  (case hr => first | (go_simp; done) | (go_simp; rfl))
                  (case hp => exact Reps.none _ _)
                  (case hf => have := below_size (Below.refl wd.heap.size wd); show wd.heap.size ≠ gm; omega)
                  (case hb => exact below_size (Below.refl wd.heap.size wd))
                  intro v45 w1 n0 b0 hgr hfr
                  refine hK.out _ _ ⟨Bc (below_step BW.out b0) CP5.out, Bc (below_step BW.out b0) CQ5.out, Bc (below_step BW.out b0) HX0.out, Bc (below_step BW.out b0) HX1.out, Bc (below_step BW.out b0) HX2.out⟩ (fun hHeld => ?_)
                  clear hK K
                  refine norm_ (a' := ?_) ?_ ?_
                  rotate_left
                  · show Act.put _ (some 121) _ = _
                    simp only [Act.put, List.setIfInBounds_toArray, List.set_cons_zero, List.set_cons_succ, i64_w, i32_w]
                    rfl
                  refine two_ (i := 3) (j := 9) (Ni := some 124) (Nj := some 130) #[true, true, true, true, true, true, true, true, true, false, false, false, false] #[true, true, true, false, true, true, true, true, true, true, false, false, false] rfl rfl rfl rfl (two_of HT_.out (by kernel_rfl)) (by decide) (by decide) (fun K hK => ?_) (fun K hK => ?_)
                  · replace hK := Aside0.mk hK
                    refine Kd.N_append_rows_step k51 (w0 := wd) wd.heap.size (by rfl) (.tmp 121) (.tmp 123) 26 51 (.agg #[(.string ⟨#[]⟩), (.slice none 0 0), (.slice none 0 0)]) 64 rfl Try.underlying26 info51 rfl (by decide) (by omega) v45 [] p5 P5 p5.length e5 (fun k => k ≠ gm) (fun k => k < b.heap.size) rfl rfl n0 (Kd.F_below (Kd.C_F heap51 K5.out) (below_step BW.out b0)) ?aK ?aF b0 ?hb ?aL ?_
                    (case aK => exact fun k hk => ⟨by omega, fun e_ => by have := Kd.N_base n0 k e_.symm; omega⟩)
                    (case aF => exact fun k hk => by have := below_size b0; show k ≠ gm; omega)
                    (case hb => exact below_size b0)
                    (case aL => simp only [List.length_nil]; omega)
                    intro v48 w2 n3 b3 hgr3 hat3
                    rw [List.nil_append] at n3
                    refine hK.out _ _ ⟨Bc (below_step BW.out b3) CP5.out, Bc (below_step BW.out b3) CQ5.out, Bc (below_step BW.out b3) HX0.out, Bc (below_step BW.out b3) HX1.out, Bc (below_step BW.out b3) HX2.out⟩ (fun hHeld => ?_)
                    clear hK K
                    refine norm_ (a' := ?_) ?_ ?_
                    rotate_left
                    · show Act.put _ (some 124) _ = _
                      simp only [Act.put, List.setIfInBounds_toArray, List.set_cons_zero, List.set_cons_succ, i64_w, i32_w]
                      rfl
                    refine one_ (i := 9) (N := some 130) #[true, true, true, true, true, true, true, true, true, true, false, false, false] rfl rfl (one_of HT_.out (by kernel_rfl)) (by decide) (fun K hK => ?_)
                    replace hK := Aside0.mk hK
                    refine Kd.N_lit_step k51 (w0 := wd) wd.heap.size 51 ?hg (N' := 130) ?hd (xs := ([x] : List S51)) (inner := [.string x.f0, .slice A6 x.f1.length c6, .slice A7 x.f2.length c7]) (ok := fun k => k < b.heap.size ∨ k = w2.heap.size) (okp := fun k => k < b.heap.size) ?hr ?hp (fun _ hk => Or.inl hk) (Or.inr rfl) b3 ?hb (by simp) ?_
                    (case hd => rfl)
                    (case hg => rfl)
                    (case hr => first | (go_simp; done) | (go_simp; rfl))
                    (case hp => exact Reps.front (k51_mkF w2 (fun k => k < b.heap.size) x I1.out.1 (Kd.F_mono (Kd.F_below (Kd.C_F Kd.heap_string I1.out.2) (below_step BW.out b3)) (fun k hk => hk)) I2.out.1 (Kd.F_mono (Kd.F_below (Kd.C_F Kd.heap_string I2.out.2) (below_step BW.out b3)) (fun k hk => hk))) rfl (Reps.none _ _) rfl)
                    (case hb => exact below_size b3)
                    intro v54 w3 n9 b9 hgr9 hfr9
                    refine hK.out _ _ ⟨Bc (below_step BW.out b9) CP5.out, Bc (below_step BW.out b9) CQ5.out, Bc (below_step BW.out b9) HX0.out, Bc (below_step BW.out b9) HX1.out, Bc (below_step BW.out b9) HX2.out⟩ (fun hHeld => ?_)
                    refine norm_ (a' := ?_) ?_ ?_
                    rotate_left
                    · show Act.put _ (some 130) _ = _
                      simp only [Act.put, List.setIfInBounds_toArray, List.set_cons_zero, List.set_cons_succ, i64_w, i32_w]
                      rfl
                    refine norm_ ?_ (hJ (v45, v48, v54) w3 ⟨b9, w2.heap.size, below_size b3, n9, Kd.N_below n3 (below_grown hgr9), fun k hk => by have := Kd.N_lt n3 k hk; omega⟩)
                    simp only [putAll, Act.put, List.setIfInBounds_toArray, List.set_cons_zero, List.set_cons_succ]
                  · replace hK := Aside0.mk hK
                    refine Kd.N_lit_step k51 (w0 := wd) wd.heap.size 51 ?hg (N' := 130) ?hd (xs := ([x] : List S51)) (inner := [.string x.f0, .slice A6 x.f1.length c6, .slice A7 x.f2.length c7]) (ok := fun k => k < b.heap.size ∨ k = w1.heap.size) (okp := fun k => k < b.heap.size) ?hr ?hp (fun _ hk => Or.inl hk) (Or.inr rfl) b0 ?hb (by simp) ?_
                    (case hd => rfl)
                    (case hg => rfl)
                    (case hr => first | (go_simp; done) | (go_simp; rfl))
                    (case hp => exact Reps.front (k51_mkF w1 (fun k => k < b.heap.size) x I1.out.1 (Kd.F_mono (Kd.F_below (Kd.C_F Kd.heap_string I1.out.2) (below_step BW.out b0)) (fun k hk => hk)) I2.out.1 (Kd.F_mono (Kd.F_below (Kd.C_F Kd.heap_string I2.out.2) (below_step BW.out b0)) (fun k hk => hk))) rfl (Reps.none _ _) rfl)
                    (case hb => exact below_size b0)
                    intro v54 w2 n9 b9 hgr9 hfr9
                    refine hK.out _ _ ⟨Bc (below_step BW.out b9) CP5.out, Bc (below_step BW.out b9) CQ5.out, Bc (below_step BW.out b9) HX0.out, Bc (below_step BW.out b9) HX1.out, Bc (below_step BW.out b9) HX2.out⟩ (fun hHeld => ?_)
                    clear hK K
                    refine norm_ (a' := ?_) ?_ ?_
                    rotate_left
                    · show Act.put _ (some 130) _ = _
                      simp only [Act.put, List.setIfInBounds_toArray, List.set_cons_zero, List.set_cons_succ, i64_w, i32_w]
                      rfl
                    have hl1 : w1.heap.size < w2.heap.size := by obtain ⟨z, hz1, hz2⟩ := hfr9; have := Kd.N_lt n9 z hz1; omega
                    have hne : ∀ k, v45.ownBlock = some k → k ≠ w1.heap.size := fun k hk => by have := Kd.N_lt n0 k hk; omega
                    have hba := Kd.N_base n0
                    replace n0 := Kd.N_below n0 (below_grown hgr9)
                    refine one_ (i := 3) (N := some 124) #[true, true, true, true, true, true, true, true, true, true, false, false, false] rfl rfl (one_of HT_.out (by kernel_rfl)) (by decide) (fun K hK => ?_)
                    replace hK := Aside0.mk hK
                    refine Kd.N_append_rows_step k51 (w0 := wd) wd.heap.size (by rfl) (.tmp 121) (.tmp 123) 26 51 (.agg #[(.string ⟨#[]⟩), (.slice none 0 0), (.slice none 0 0)]) 64 rfl Try.underlying26 info51 rfl (by decide) (by omega) v45 [] p5 P5 p5.length e5 (fun k => k ≠ gm) (fun k => k < b.heap.size) rfl rfl n0 (Kd.F_below (Kd.C_F heap51 K5.out) (below_step BW.out b9)) ?aK ?aF b9 ?hb ?aL ?_
                    (case aK => exact fun k hk => ⟨by omega, fun e_ => by have := Kd.N_base n0 k e_.symm; omega⟩)
                    (case aF => exact fun k hk => by have := below_size b9; show k ≠ gm; omega)
                    (case hb => exact below_size b9)
                    (case aL => simp only [List.length_nil]; omega)
                    intro v48 w3 n3 b3 hgr3 hat3
                    rw [List.nil_append] at n3
                    refine hK.out _ _ ⟨Bc (below_step BW.out b3) CP5.out, Bc (below_step BW.out b3) CQ5.out, Bc (below_step BW.out b3) HX0.out, Bc (below_step BW.out b3) HX1.out, Bc (below_step BW.out b3) HX2.out⟩ (fun hHeld => ?_)
                    refine norm_ (a' := ?_) ?_ ?_
                    rotate_left
                    · show Act.put _ (some 124) _ = _
                      simp only [Act.put, List.setIfInBounds_toArray, List.set_cons_zero, List.set_cons_succ, i64_w, i32_w]
                      rfl
                    refine norm_ ?_ (hJ (v45, v48, v54) w3 ⟨b3, w1.heap.size, below_size b0, Kd.N_grown n9 hgr3 (fun k hk e_ => by have h1 := hba k e_.symm; have h2 := hne k e_.symm; omega), n3, fun k hk => by
                      rcases hat3 with h | ⟨z, hz, hz2⟩
                      · rw [h] at hk; exact hne k hk
                      · rw [hz] at hk; injection hk with hk; omega⟩)
                    simp only [putAll, Act.put, List.setIfInBounds_toArray, List.set_cons_zero, List.set_cons_succ]
                · replace hK := Aside0.mk hK
                  refine Kd.N_lit_step k51 (w0 := wd) wd.heap.size 51 ?hg (N' := 130) ?hd (xs := ([x] : List S51)) (inner := [.string x.f0, .slice A6 x.f1.length c6, .slice A7 x.f2.length c7]) (ok := fun k => k < b.heap.size ∨ k = wd.heap.size) (okp := fun k => k < b.heap.size) ?hr ?hp (fun _ hk => Or.inl hk) (Or.inr rfl) (Below.refl wd.heap.size wd) ?hb (by simp) ?_
                  (case hd => rfl)
                  (case hg => rfl)
                  (case hr => first | (go_simp; done) | (go_simp; rfl))
                  (case hp => exact Reps.front (k51_mkF wd (fun k => k < b.heap.size) x I1.out.1 (Kd.F_mono (Kd.F_below (Kd.C_F Kd.heap_string I1.out.2) (below_step BW.out (Below.refl wd.heap.size wd))) (fun k hk => hk)) I2.out.1 (Kd.F_mono (Kd.F_below (Kd.C_F Kd.heap_string I2.out.2) (below_step BW.out (Below.refl wd.heap.size wd))) (fun k hk => hk))) rfl (Reps.none _ _) rfl)
                  (case hb => exact below_size (Below.refl wd.heap.size wd))
                  intro v54 w1 n9 b9 hgr9 hfr9
                  refine hK.out _ _ ⟨Bc (below_step BW.out b9) CP5.out, Bc (below_step BW.out b9) CQ5.out, Bc (below_step BW.out b9) HX0.out, Bc (below_step BW.out b9) HX1.out, Bc (below_step BW.out b9) HX2.out⟩ (fun hHeld => ?_)
                  clear hK K
                  refine norm_ (a' := ?_) ?_ ?_
                  rotate_left
                  · show Act.put _ (some 130) _ = _
                    simp only [Act.put, List.setIfInBounds_toArray, List.set_cons_zero, List.set_cons_succ, i64_w, i32_w]
                    rfl
                  have hl1 : wd.heap.size < w1.heap.size := by obtain ⟨z, hz1, hz2⟩ := hfr9; have := Kd.N_lt n9 z hz1; omega
                  refine one_ (i := 0) (N := some 121) #[true, true, true, false, true, true, true, true, true, true, false, false, false] rfl rfl (one_of HT_.out (by kernel_rfl)) (by decide) (fun K hK => ?_)
                  replace hK := Aside0.mk hK
                  refine Kd.N_lit_step k51 (w0 := wd) wd.heap.size 51 ?hg (N' := 121) ?hd (xs := ([] : List S51)) (inner := []) (ok := fun k => k ≠ gm) (okp := fun _ => False) ?hr ?hp (fun _ hk => hk.elim) ?hf b9 ?hb (by simp) ?_
                  (case hd => rfl)
                  (case hg => rfl)
                  (case hr => first | (go_simp; done) | (go_simp; rfl))
                  (case hp => exact Reps.none _ _)
                  (case hf => have := below_size b9; show w1.heap.size ≠ gm; omega)
                  (case hb => exact below_size b9)
                  intro v45 w2 n0 b0 hgr hfr
                  refine hK.out _ _ ⟨Bc (below_step BW.out b0) CP5.out, Bc (below_step BW.out b0) CQ5.out, Bc (below_step BW.out b0) HX0.out, Bc (below_step BW.out b0) HX1.out, Bc (below_step BW.out b0) HX2.out⟩ (fun hHeld => ?_)
                  clear hK K
                  refine norm_ (a' := ?_) ?_ ?_
                  rotate_left
                  · show Act.put _ (some 121) _ = _
                    simp only [Act.put, List.setIfInBounds_toArray, List.set_cons_zero, List.set_cons_succ, i64_w, i32_w]
                    rfl
                  have hne : ∀ k, v45.ownBlock = some k → k ≠ wd.heap.size := fun k hk => by obtain ⟨z, hz1, hz2⟩ := hfr; rw [hz1] at hk; injection hk with hk; omega
                  have hba := Kd.N_base n0
                  have hs2 := below_size b0
                  replace n9 := Kd.N_below n9 (below_grown hgr)
                  have hl2 := hgr.size
                  refine one_ (i := 3) (N := some 124) #[true, true, true, true, true, true, true, true, true, true, false, false, false] rfl rfl (one_of HT_.out (by kernel_rfl)) (by decide) (fun K hK => ?_)
                  replace hK := Aside0.mk hK
                  refine Kd.N_append_rows_step k51 (w0 := wd) wd.heap.size (by rfl) (.tmp 121) (.tmp 123) 26 51 (.agg #[(.string ⟨#[]⟩), (.slice none 0 0), (.slice none 0 0)]) 64 rfl Try.underlying26 info51 rfl (by decide) (by omega) v45 [] p5 P5 p5.length e5 (fun k => k ≠ gm) (fun k => k < b.heap.size) rfl rfl n0 (Kd.F_below (Kd.C_F heap51 K5.out) (below_step BW.out b0)) ?aK ?aF b0 ?hb ?aL ?_
                  (case aK => exact fun k hk => ⟨by omega, fun e_ => by have := Kd.N_base n0 k e_.symm; omega⟩)
                  (case aF => exact fun k hk => by have := below_size b0; show k ≠ gm; omega)
                  (case hb => exact below_size b0)
                  (case aL => simp only [List.length_nil]; omega)
                  intro v48 w3 n3 b3 hgr3 hat3
                  rw [List.nil_append] at n3
                  refine hK.out _ _ ⟨Bc (below_step BW.out b3) CP5.out, Bc (below_step BW.out b3) CQ5.out, Bc (below_step BW.out b3) HX0.out, Bc (below_step BW.out b3) HX1.out, Bc (below_step BW.out b3) HX2.out⟩ (fun hHeld => ?_)
                  refine norm_ (a' := ?_) ?_ ?_
                  rotate_left
                  · show Act.put _ (some 124) _ = _
                    simp only [Act.put, List.setIfInBounds_toArray, List.set_cons_zero, List.set_cons_succ, i64_w, i32_w]
                    rfl
                  refine norm_ ?_ (hJ (v45, v48, v54) w3 ⟨b3, wd.heap.size, Nat.le_refl _, Kd.N_grown n9 hgr3 (fun k hk e_ => by have h1 := hba k e_.symm; have h2 := hne k e_.symm; omega), n3, fun k hk => by
                    rcases hat3 with h | ⟨z, hz, hz2⟩
                    · rw [h] at hk; exact hne k hk
                    · rw [hz] at hk; injection hk with hk; omega⟩)
                  simp only [putAll, Act.put, List.setIfInBounds_toArray, List.set_cons_zero, List.set_cons_succ]
              rintro ⟨v45, v48, v54⟩ w11 ⟨b11, g9, hg9, n9, n3, hne⟩
              obtain ⟨A48, c48, rfl⟩ := Kd.N_slice n3
              obtain ⟨A54, c54, rfl⟩ := Kd.N_slice n9
              replace hHeld : w11.cell? ⟨gp, 5, none⟩ = some (.slice P5 p5.length e5) ∧ w11.cell? ⟨gq, 5, none⟩ = some (.slice (some ad) q5.length d5) ∧ w11.cell? (ad.add (kk * 3)) = some (.string x.f0) ∧ w11.cell? ⟨(ad.add (kk * 3)).block, (ad.add (kk * 3)).off + 1, none⟩ = some (.slice A6 x.f1.length c6) ∧ w11.cell? ⟨(ad.add (kk * 3)).block, (ad.add (kk * 3)).off + 2, none⟩ = some (.slice A7 x.f2.length c7) := ⟨Bc (below_step BW.out b11) CP5.out, Bc (below_step BW.out b11) CQ5.out, Bc (below_step BW.out b11) HX0.out, Bc (below_step BW.out b11) HX1.out, Bc (below_step BW.out b11) HX2.out⟩
              have hgm1 := below_size b11
              refine norm_ (a' := ?_) ?_ ?_
              rotate_left
              · simp only [putAll, Act.put, List.setIfInBounds_toArray, List.set_cons_zero, List.set_cons_succ]
                rfl
              obtain ⟨Lx, hLx⟩ : ∃ L, L = p5 ++ ([x] : List S51) := ⟨_, rfl⟩
              refine one_ (i := 10) (N := some 131) #[true, true, true, true, true, true, true, true, true, true, true, false, false] rfl rfl (one_of HT_.out (by kernel_rfl)) (by decide) (fun K hK => ?_)
              replace hK := Aside0.mk hK
              refine Kd.N_append_rows_step k51 (w0 := wd) wd.heap.size (by rfl) (.tmp 124) (.tmp 130) 26 51 (.agg #[(.string ⟨#[]⟩), (.slice none 0 0), (.slice none 0 0)]) 64 rfl Try.underlying26 info51 rfl (by decide) (by omega) (.slice A48 p5.length c48) p5 ([x] : List S51) A54 1 c54 (fun k => k ≠ gm) (fun k => k < b.heap.size ∨ k = g9) rfl rfl n3 (Kd.N_F n9) ?aK ?aF b11 ?hb ?aL ?_
              (case aK => exact fun k hk => ⟨by omega, fun e_ => by have h1 := Kd.N_base n3 k e_.symm; have h2 := hne k e_.symm; omega⟩)
              (case aF => exact fun k hk => by show k ≠ gm; omega)
              (case hb => exact hgm1)
              (case aL => omega)
              intro v55 w12 n5 b5 hgr5 hat5
              rw [← hLx] at n5
              obtain ⟨A55, c55, rfl⟩ := Kd.N_slice n5
              have BM12 := Aside0.mk (blk_below BM.out b5)
              have tm : w12.cell? ⟨gm, 5, none⟩ = some (.slice P5 p5.length e5) := (blk_cell BM12.out 5).trans rfl
              have tf := blk_frozen BM12.out 5
              refine hK.out _ _ ⟨Bc (below_step BW.out b5) CP5.out, Bc (below_step BW.out b5) CQ5.out, Bc (below_step BW.out b5) HX0.out, Bc (below_step BW.out b5) HX1.out, Bc (below_step BW.out b5) HX2.out⟩ (fun hHeld => ?_)
              clear hK K
              refine norm_ (a' := ?_) ?_ ?_
              rotate_left
              · show Act.put _ (some 131) _ = _
                simp only [Act.put, List.setIfInBounds_toArray, List.set_cons_zero, List.set_cons_succ, i64_w, i32_w]
                rfl
              have BW12 := Aside0.mk (below_step BW.out b5)
              have N12 := Aside0.mk n5
              have HLX := Aside0.mk hLx
              clear n5 b5 hgr5 hat5 n3 n9 b11 hgm1 hne hg9 hLx BM BW hgm hgb hbd
              refine pure_ (i := 11) (N := some 132) (v := ?_) (a' := ?_) #[true, true, true, true, true, true, true, true, true, true, true, true, false] rfl rfl (any_of HT_.out (by kernel_rfl)) (fun _ _ _ h => h) (Or.inl ⟨by rfl, ?_⟩) ?_ ?_
              rotate_left
              · intro w'
                go_simp
                with_reducible rfl
              rotate_left
              · simp only [Act.put, List.setIfInBounds_toArray, List.set_cons_zero, List.set_cons_succ, i64_w, i32_w]
                rfl
              refine last_ (i := 12) (N := none) #[true, true, true, true, true, true, true, true, true, true, true, true, true] rfl rfl (one_of HT_.out (by kernel_rfl)) (by decide) (fun K hK => ?_)
              refine skip_ (w1 := ?_) (by rfl) rfl ?_ ?_
              rotate_left
              · go_simp
                rfl
              refine hK _ _ ?_
              refine done_ (done_of HT_.out (by kernel_rfl)) ?_
              have BW := Aside0.mk (show Below b.heap.size b (w12.setCell ⟨gm, 5, none⟩ (.slice A55 Lx.length c55)) from below_set BW12.out GM.out)
              have BM := Aside0.mk (show (w12.setCell ⟨gm, 5, none⟩ (.slice A55 Lx.length c55)).heap[gm]? = some (.cells #[.slice P0 p0.length e0, .slice P1 p1.length e1, .slice P2 p2.length e2, .slice P3 p3.length e3, .slice P4 p4.length e4, .slice A55 Lx.length c55] 28 (0, 0)) from blk_put BM12.out 5 _ rfl)
              have CX := Aside0.mk (Kd.N_reads' (Kd.N_far (p := ⟨gm, 5, none⟩) N12.out (fun k hk => hk) (.slice A55 Lx.length c55))).2
              generalize w12.setCell ⟨gm, 5, none⟩ (.slice A55 Lx.length c55) = w13 at BW BM CX ⊢
              clear BW12 BM12 N12 tm tf hHeld hK K HT_ HW_
              rw [← HLX.out] at HBX
              obtain ⟨now, hnow⟩ : ∃ now, now = nB x := ⟨_, rfl⟩
              rw [← hnow, ← HFE.out] at HBX
              clear hnow
              have fm0 : w13.cell? ⟨gm, 0, none⟩ = some (.slice P0 p0.length e0) := (blk_cell BM.out 0).trans rfl
              have fm1 : w13.cell? ⟨gm, 1, none⟩ = some (.slice P1 p1.length e1) := (blk_cell BM.out 1).trans rfl
              have fm2 : w13.cell? ⟨gm, 2, none⟩ = some (.slice P2 p2.length e2) := (blk_cell BM.out 2).trans rfl
              have fm3 : w13.cell? ⟨gm, 3, none⟩ = some (.slice P3 p3.length e3) := (blk_cell BM.out 3).trans rfl
              have fm4 : w13.cell? ⟨gm, 4, none⟩ = some (.slice P4 p4.length e4) := (blk_cell BM.out 4).trans rfl
              have fm5 : w13.cell? ⟨gm, 5, none⟩ = some (.slice A55 Lx.length c55) := (blk_cell BM.out 5).trans rfl
              have fa1 := Bc BW.out CA1.out
              have fa2 := Bc BW.out CA2.out
              have fa3 := Bc BW.out CA3.out
              go_upto_region 23 with (go_at_call 9; with_reducible refine (glob_May.calls k _ _ p0 _ _ p1 _ _ p2 _ _ p3 _ _ p4 _ _ Lx u a o now _ (Kd.C_below K0.out BW.out) mP0 (Kd.C_below K1.out BW.out) mP1 (Kd.C_below K2.out BW.out) mP2 (Kd.C_below K3.out BW.out) mP3 (Kd.C_below K4.out BW.out) mP4 CX.out.2 CX.out.1 HBX.out.1).mono ?_; rintro e w14 ⟨rfl, hb⟩; have B14 := Aside0.mk (below_step BW.out hb); clear hb)
              clear fm0 fm1 fm2 fm3 fm4 fm5 fa1 fa2 fa3 BM CX BW
              have HL := Aside0.mk HBX.out.2
              clear HBX HLX
              obtain ⟨eqv, heq⟩ : ∃ eqv, (x.f0.toList == u.toList) = eqv := ⟨_, rfl⟩
              have HEQ := Aside0.mk heq
              have hl2 := HL.out.2
              have hl1 := HL.out.1
              rw [show (x.f0.toList != u.toList) = !(x.f0.toList == u.toList) from rfl, heq] at hl2
              clear heq HL
              replace B14 := Aside0.mk (below_drew1 B14.out)
              have HD := Aside0.mk (show w14.drew.cell? ⟨gq, 5, none⟩ = some (.slice (some ad) q5.length d5) ∧ w14.drew.cell? (ad.add (kk * 3)) = some (.string x.f0) ∧ w14.drew.cell? ⟨ga, 1, none⟩ = some (.string u) from ⟨Bc B14.out CQ5.out, Bc B14.out HX0.out, Bc B14.out CA1.out⟩)
              have hc : (fr = false ∧ eqv = true) ∨ (fr = false ∧ eqv = false ∧ now = true ∧ was = true) ∨ (fr = false ∧ eqv = false ∧ now = false ∧ was = false) ∨ (fr = true ∧ now = false ∧ eqv = true) ∨ (fr = true ∧ now = false ∧ eqv = false ∧ was = false) ∨ (fr = true ∧ now = true ∧ was = true ∧ eqv = true) ∨ (fr = true ∧ now = true ∧ was = true ∧ eqv = false) := by
                revert hl1 hl2; cases fr <;> cases eqv <;> cases now <;> cases was <;> simp
              clear hl1 hl2
              rcases hc with ⟨rfl, rfl⟩ | ⟨rfl, rfl, rfl, rfl⟩ | ⟨rfl, rfl, rfl, rfl⟩ | ⟨rfl, rfl, rfl⟩ | ⟨rfl, rfl, rfl, rfl⟩ | ⟨rfl, rfl, rfl, rfl⟩ | ⟨rfl, rfl, rfl, rfl⟩
              all_goals
                refine start_ (n := 24) (S := fun w' => w'.cell? ⟨gq, 5, none⟩ = some (.slice (some ad) q5.length d5) ∧ w'.cell? (ad.add (kk * 3)) = some (.string x.f0) ∧ w'.cell? ⟨ga, 1, none⟩ = some (.string u)) (ds := []) #[false, false, false, false, false, false, false, false, false, false, false, false, false, false, false, false, false, false, false, false, false, false, false, false] (by kernel_rfl) rfl rfl HD.out (fun hHeld => ?_); refine with_tabW gu.tab23 gu.bits23 (fun HT_ HW_ => ?_)
                generalize w14.drew = w15 at B14 hHeld ⊢
                refine pure_ (i := 0) (N := some 141) (v := ?_) (a' := ?_) #[true, false, false, false, false, false, false, false, false, false, false, false, false, false, false, false, false, false, false, false, false, false, false, false] rfl rfl (any_of HT_.out (by kernel_rfl)) (fun _ _ _ h => h) (Or.inl ⟨by rfl, ?_⟩) ?_ ?_
                rotate_left
                · intro w'
                  go_simp
                  with_reducible rfl
                rotate_left
                · simp only [Act.put, List.setIfInBounds_toArray, List.set_cons_zero, List.set_cons_succ, i64_w, i32_w]
                  rfl
                refine pure_ (i := 1) (N := some 142) (v := ?_) (a' := ?_) #[true, true, false, false, false, false, false, false, false, false, false, false, false, false, false, false, false, false, false, false, false, false, false, false] rfl rfl (any_of HT_.out (by kernel_rfl)) (fun _ _ _ h => h) (Or.inl ⟨by rfl, ?_⟩) ?_ ?_
                rotate_left
                · intro w'
                  go_simp
                  with_reducible rfl
                rotate_left
                · simp only [Act.put, List.setIfInBounds_toArray, List.set_cons_zero, List.set_cons_succ, i64_w, i32_w]
                  rfl
                first
                  | (refine pure_ (i := 2) (N := some 143) (v := undef) (a' := ?_) #[true, true, true, false, false, false, false, false, false, false, false, false, false, false, false, false, false, false, false, false, false, false, false, false] rfl rfl (any_of HT_.out (by kernel_rfl)) (fun _ _ _ h => h) (Or.inr ⟨by rfl, rfl⟩) ?_ ?_; rotate_left; · simp only [Act.put, List.setIfInBounds_toArray, List.set_cons_zero, List.set_cons_succ, i64_w, i32_w]; rfl)
                  | (refine pure_ (i := 2) (N := some 143) (v := ?_) (a' := ?_) #[true, true, true, false, false, false, false, false, false, false, false, false, false, false, false, false, false, false, false, false, false, false, false, false] rfl rfl (any_of HT_.out (by kernel_rfl)) (fun _ _ _ h => h) (Or.inl ⟨by rfl, ?_⟩) ?_ ?_; rotate_left; · intro w'; go_simp; with_reducible rfl
                     rotate_left; · simp only [Act.put, List.setIfInBounds_toArray, List.set_cons_zero, List.set_cons_succ, i64_w, i32_w]; rfl)
                refine pure_ (i := 3) (N := some 144) (v := ?_) (a' := ?_) #[true, true, true, true, false, false, false, false, false, false, false, false, false, false, false, false, false, false, false, false, false, false, false, false] rfl rfl (any_of HT_.out (by kernel_rfl)) (fun _ _ _ h => h) (Or.inl ⟨by rfl, ?_⟩) ?_ ?_
                rotate_left
                · intro w'
                  go_simp
                  with_reducible rfl
                rotate_left
                · simp only [Act.put, List.setIfInBounds_toArray, List.set_cons_zero, List.set_cons_succ, i64_w, i32_w]
                  rfl
                refine pure_ (i := 4) (N := some 145) (v := ?_) (a' := ?_) #[true, true, true, true, true, false, false, false, false, false, false, false, false, false, false, false, false, false, false, false, false, false, false, false] rfl rfl (any_of HT_.out (by kernel_rfl)) (fun _ _ _ h => h) (Or.inl ⟨by rfl, ?_⟩) ?_ ?_
                rotate_left
                · intro w'
                  go_simp
                  with_reducible rfl
                rotate_left
                · simp only [Act.put, List.setIfInBounds_toArray, List.set_cons_zero, List.set_cons_succ, i64_w, i32_w]
                  rfl
                first
                  | (refine pure_ (i := 5) (N := some 146) (v := undef) (a' := ?_) #[true, true, true, true, true, true, false, false, false, false, false, false, false, false, false, false, false, false, false, false, false, false, false, false] rfl rfl (any_of HT_.out (by kernel_rfl)) (fun _ _ _ h => h) (Or.inr ⟨by rfl, rfl⟩) ?_ ?_; rotate_left; · simp only [Act.put, List.setIfInBounds_toArray, List.set_cons_zero, List.set_cons_succ, i64_w, i32_w]; rfl)
                  | (refine pure_ (i := 5) (N := some 146) (v := ?_) (a' := ?_) #[true, true, true, true, true, true, false, false, false, false, false, false, false, false, false, false, false, false, false, false, false, false, false, false] rfl rfl (any_of HT_.out (by kernel_rfl)) (fun _ _ _ h => h) (Or.inl ⟨by rfl, ?_⟩) ?_ ?_; rotate_left; · intro w'; go_simp; with_reducible rfl
                     rotate_left; · simp only [Act.put, List.setIfInBounds_toArray, List.set_cons_zero, List.set_cons_succ, i64_w, i32_w]; rfl)
                first
                  | (refine pure_ (i := 6) (N := some 147) (v := undef) (a' := ?_) #[true, true, true, true, true, true, true, false, false, false, false, false, false, false, false, false, false, false, false, false, false, false, false, false] rfl rfl (any_of HT_.out (by kernel_rfl)) (fun _ _ _ h => h) (Or.inr ⟨by rfl, rfl⟩) ?_ ?_; rotate_left; · simp only [Act.put, List.setIfInBounds_toArray, List.set_cons_zero, List.set_cons_succ, i64_w, i32_w]; rfl)
                  | (refine pure_ (i := 6) (N := some 147) (v := ?_) (a' := ?_) #[true, true, true, true, true, true, true, false, false, false, false, false, false, false, false, false, false, false, false, false, false, false, false, false] rfl rfl (any_of HT_.out (by kernel_rfl)) (fun _ _ _ h => h) (Or.inl ⟨by rfl, ?_⟩) ?_ ?_; rotate_left; · intro w'; go_simp; with_reducible rfl
                     rotate_left; · simp only [Act.put, List.setIfInBounds_toArray, List.set_cons_zero, List.set_cons_succ, i64_w, i32_w]; rfl)
                refine pure_ (i := 7) (N := some 148) (v := ?_) (a' := ?_) #[true, true, true, true, true, true, true, true, false, false, false, false, false, false, false, false, false, false, false, false, false, false, false, false] rfl rfl (any_of HT_.out (by kernel_rfl)) (fun _ _ _ h => h) (Or.inl ⟨by rfl, ?_⟩) ?_ ?_
                rotate_left
                · intro w'
                  go_simp
                  with_reducible rfl
                rotate_left
                · simp only [Act.put, List.setIfInBounds_toArray, List.set_cons_zero, List.set_cons_succ, i64_w, i32_w]
                  rfl
                refine pure_ (i := 8) (N := some 149) (v := ?_) (a' := ?_) #[true, true, true, true, true, true, true, true, true, false, false, false, false, false, false, false, false, false, false, false, false, false, false, false] rfl rfl (any_of HT_.out (by kernel_rfl)) (fun _ _ _ h => h) (Or.inl ⟨by rfl, ?_⟩) ?_ ?_
                rotate_left
                · intro w'
                  go_simp
                  with_reducible rfl
                rotate_left
                · simp only [Act.put, List.setIfInBounds_toArray, List.set_cons_zero, List.set_cons_succ, i64_w, i32_w]
                  rfl
                refine pure_ (i := 9) (N := some 150) (v := ?_) (a' := ?_) #[true, true, true, true, true, true, true, true, true, true, false, false, false, false, false, false, false, false, false, false, false, false, false, false] rfl rfl (any_of HT_.out (by kernel_rfl)) (fun _ _ _ h => h) (Or.inl ⟨by rfl, ?_⟩) ?_ ?_
                rotate_left
                · intro w'
                  go_simp
                  with_reducible rfl
                rotate_left
                · simp only [Act.put, List.setIfInBounds_toArray, List.set_cons_zero, List.set_cons_succ, i64_w, i32_w]
                  rfl
                refine take_ (i := 10) (N := some 151) (v := ?_) (a' := ?_) #[true, true, true, true, true, true, true, true, true, true, true, false, false, false, false, false, false, false, false, false, false, false, false, false] rfl rfl (take_ofW HT_.out HW_.out (by kernel_rfl)) (fun _ _ _ h => h) (Or.inl ⟨by rfl, ?_⟩) hHeld ?_ ?_
                rotate_left
                · rintro w' ⟨s0, s1, s2⟩
                  go_simp
                  with_reducible rfl
                rotate_left
                · simp only [Act.put, List.setIfInBounds_toArray, List.set_cons_zero, List.set_cons_succ, i64_w, i32_w]
                  rfl
                refine pure_ (i := 11) (N := some 152) (v := ?_) (a' := ?_) #[true, true, true, true, true, true, true, true, true, true, true, true, false, false, false, false, false, false, false, false, false, false, false, false] rfl rfl (any_of HT_.out (by kernel_rfl)) (fun _ _ _ h => h) (Or.inl ⟨by rfl, ?_⟩) ?_ ?_
                rotate_left
                · intro w'
                  go_simp
                  with_reducible rfl
                rotate_left
                · simp only [Act.put, List.setIfInBounds_toArray, List.set_cons_zero, List.set_cons_succ, i64_w, i32_w]
                  rfl
                refine pure_ (i := 12) (N := some 153) (v := ?_) (a' := ?_) #[true, true, true, true, true, true, true, true, true, true, true, true, true, false, false, false, false, false, false, false, false, false, false, false] rfl rfl (any_of HT_.out (by kernel_rfl)) (fun _ _ _ h => h) (Or.inl ⟨by rfl, ?_⟩) ?_ ?_
                rotate_left
                · intro w'
                  go_simp
                  with_reducible rfl
                rotate_left
                · simp only [Act.put, List.setIfInBounds_toArray, List.set_cons_zero, List.set_cons_succ, i64_w, i32_w]
                  rfl
                refine pure_ (i := 13) (N := some 154) (v := ?_) (a' := ?_) #[true, true, true, true, true, true, true, true, true, true, true, true, true, true, false, false, false, false, false, false, false, false, false, false] rfl rfl (any_of HT_.out (by kernel_rfl)) (fun _ _ _ h => h) (Or.inl ⟨by rfl, ?_⟩) ?_ ?_
                rotate_left
                · intro w'
                  go_simp
                  with_reducible rfl
                rotate_left
                · simp only [Act.put, List.setIfInBounds_toArray, List.set_cons_zero, List.set_cons_succ, i64_w, i32_w]
                  rfl
                refine take_ (i := 14) (N := some 155) (v := ?_) (a' := ?_) #[true, true, true, true, true, true, true, true, true, true, true, true, true, true, true, false, false, false, false, false, false, false, false, false] rfl rfl (take_ofW HT_.out HW_.out (by kernel_rfl)) (fun _ _ _ h => h) (Or.inl ⟨by rfl, ?_⟩) hHeld ?_ ?_
                rotate_left
                · rintro w' ⟨s0, s1, s2⟩
                  go_simp
                  with_reducible rfl
                rotate_left
                · simp only [Act.put, List.setIfInBounds_toArray, List.set_cons_zero, List.set_cons_succ, i64_w, i32_w]
                  rfl
                refine pure_ (i := 15) (N := some 156) (v := ?_) (a' := ?_) #[true, true, true, true, true, true, true, true, true, true, true, true, true, true, true, true, false, false, false, false, false, false, false, false] rfl rfl (any_of HT_.out (by kernel_rfl)) (fun _ _ _ h => h) (Or.inl ⟨by rfl, ?_⟩) ?_ ?_
                rotate_left
                · intro w'
                  go_simp
                  with_reducible rfl
                rotate_left
                · simp only [Act.put, List.setIfInBounds_toArray, List.set_cons_zero, List.set_cons_succ, i64_w, i32_w]
                  rfl
                refine take_ (i := 16) (N := some 157) (v := ?_) (a' := ?_) #[true, true, true, true, true, true, true, true, true, true, true, true, true, true, true, true, true, false, false, false, false, false, false, false] rfl rfl (take_ofW HT_.out HW_.out (by kernel_rfl)) (fun _ _ _ h => h) (Or.inl ⟨by rfl, ?_⟩) hHeld ?_ ?_
                rotate_left
                · rintro w' ⟨s0, s1, s2⟩
                  go_simp
                  with_reducible rfl
                rotate_left
                · simp only [Act.put, List.setIfInBounds_toArray, List.set_cons_zero, List.set_cons_succ, i64_w, i32_w]
                  rfl
                refine pure_ (i := 17) (N := some 158) (v := ?_) (a' := ?_) #[true, true, true, true, true, true, true, true, true, true, true, true, true, true, true, true, true, true, false, false, false, false, false, false] rfl rfl (any_of HT_.out (by kernel_rfl)) (fun _ _ _ h => h) (Or.inl ⟨by rfl, ?_⟩) ?_ ?_
                rotate_left
                · intro w'
                  go_simp
                  rw [HEQ.out]
                  first | done | with_reducible rfl
                rotate_left
                · simp only [Act.put, List.setIfInBounds_toArray, List.set_cons_zero, List.set_cons_succ, i64_w, i32_w]
                  rfl
                refine pure_ (i := 18) (N := some 159) (v := ?_) (a' := ?_) #[true, true, true, true, true, true, true, true, true, true, true, true, true, true, true, true, true, true, true, false, false, false, false, false] rfl rfl (any_of HT_.out (by kernel_rfl)) (fun _ _ _ h => h) (Or.inl ⟨by rfl, ?_⟩) ?_ ?_
                rotate_left
                · intro w'
                  go_simp
                  with_reducible rfl
                rotate_left
                · simp only [Act.put, List.setIfInBounds_toArray, List.set_cons_zero, List.set_cons_succ, i64_w, i32_w]
                  rfl
                first
                  | (refine pure_ (i := 19) (N := some 160) (v := undef) (a' := ?_) #[true, true, true, true, true, true, true, true, true, true, true, true, true, true, true, true, true, true, true, true, false, false, false, false] rfl rfl (any_of HT_.out (by kernel_rfl)) (fun _ _ _ h => h) (Or.inr ⟨by rfl, rfl⟩) ?_ ?_; rotate_left; · simp only [Act.put, List.setIfInBounds_toArray, List.set_cons_zero, List.set_cons_succ, i64_w, i32_w]; rfl)
                  | (refine pure_ (i := 19) (N := some 160) (v := ?_) (a' := ?_) #[true, true, true, true, true, true, true, true, true, true, true, true, true, true, true, true, true, true, true, true, false, false, false, false] rfl rfl (any_of HT_.out (by kernel_rfl)) (fun _ _ _ h => h) (Or.inl ⟨by rfl, ?_⟩) ?_ ?_; rotate_left; · intro w'; go_simp; with_reducible rfl
                     rotate_left; · simp only [Act.put, List.setIfInBounds_toArray, List.set_cons_zero, List.set_cons_succ, i64_w, i32_w]; rfl)
                first
                  | (refine pure_ (i := 20) (N := some 161) (v := undef) (a' := ?_) #[true, true, true, true, true, true, true, true, true, true, true, true, true, true, true, true, true, true, true, true, true, false, false, false] rfl rfl (any_of HT_.out (by kernel_rfl)) (fun _ _ _ h => h) (Or.inr ⟨by rfl, rfl⟩) ?_ ?_; rotate_left; · simp only [Act.put, List.setIfInBounds_toArray, List.set_cons_zero, List.set_cons_succ, i64_w, i32_w]; rfl)
                  | (refine pure_ (i := 20) (N := some 161) (v := ?_) (a' := ?_) #[true, true, true, true, true, true, true, true, true, true, true, true, true, true, true, true, true, true, true, true, true, false, false, false] rfl rfl (any_of HT_.out (by kernel_rfl)) (fun _ _ _ h => h) (Or.inl ⟨by rfl, ?_⟩) ?_ ?_; rotate_left; · intro w'; go_simp; with_reducible rfl
                     rotate_left; · simp only [Act.put, List.setIfInBounds_toArray, List.set_cons_zero, List.set_cons_succ, i64_w, i32_w]; rfl)
                first
                  | (refine pure_ (i := 21) (N := some 162) (v := undef) (a' := ?_) #[true, true, true, true, true, true, true, true, true, true, true, true, true, true, true, true, true, true, true, true, true, true, false, false] rfl rfl (any_of HT_.out (by kernel_rfl)) (fun _ _ _ h => h) (Or.inr ⟨by rfl, rfl⟩) ?_ ?_; rotate_left; · simp only [Act.put, List.setIfInBounds_toArray, List.set_cons_zero, List.set_cons_succ, i64_w, i32_w]; rfl)
                  | (refine pure_ (i := 21) (N := some 162) (v := ?_) (a' := ?_) #[true, true, true, true, true, true, true, true, true, true, true, true, true, true, true, true, true, true, true, true, true, true, false, false] rfl rfl (any_of HT_.out (by kernel_rfl)) (fun _ _ _ h => h) (Or.inl ⟨by rfl, ?_⟩) ?_ ?_; rotate_left; · intro w'; go_simp; with_reducible rfl
                     rotate_left; · simp only [Act.put, List.setIfInBounds_toArray, List.set_cons_zero, List.set_cons_succ, i64_w, i32_w]; rfl)
                refine pure_ (i := 22) (N := some 163) (v := ?_) (a' := ?_) #[true, true, true, true, true, true, true, true, true, true, true, true, true, true, true, true, true, true, true, true, true, true, true, false] rfl rfl (any_of HT_.out (by kernel_rfl)) (fun _ _ _ h => h) (Or.inl ⟨by rfl, ?_⟩) ?_ ?_
                rotate_left
                · intro w'
                  go_simp
                  with_reducible rfl
                rotate_left
                · simp only [Act.put, List.setIfInBounds_toArray, List.set_cons_zero, List.set_cons_succ, i64_w, i32_w]
                  rfl
                refine pure_ (i := 23) (N := some 164) (v := ?_) (a' := ?_) #[true, true, true, true, true, true, true, true, true, true, true, true, true, true, true, true, true, true, true, true, true, true, true, true] rfl rfl (any_of HT_.out (by kernel_rfl)) (fun _ _ _ h => h) (Or.inl ⟨by rfl, ?_⟩) ?_ ?_
                rotate_left
                · intro w'
                  go_simp
                  with_reducible rfl
                rotate_left
                · simp only [Act.put, List.setIfInBounds_toArray, List.set_cons_zero, List.set_cons_succ, i64_w, i32_w]
                  rfl
                refine done_ (done_of HT_.out (by kernel_rfl)) ?_
                go_wp2
                go_roundg (q5.length - (kk + 1))
                case measure => omega
                case rel => exact ⟨kk + 1, by omega, by omega, by go_num, B14⟩
            · have hltz : ¬ (kk : Int) < (q5.length : Int) := by omega
              obtain rfl : kk = q5.length := by omega
              clear M5 HBD HFE
              go_upto_region 25 with (fail)
              have fp0 := Bc BR.out CP0.out
              have fp1 := Bc BR.out CP1.out
              have fp2 := Bc BR.out CP2.out
              have fp3 := Bc BR.out CP3.out
              have fp4 := Bc BR.out CP4.out
              have fp5 := Bc BR.out CP5.out
              go_upto_region 26 with (first | ((with_reducible refine gate_dst (N := 19) rfl ?_); (try (refine gate_guard (by rfl) ?_; dsimp only)); refine box_event ?hg (N := 19) ?hd (cs := #[.slice none 0 0, .slice none 0 0, .slice none 0 0, .slice none 0 0, .slice none 0 0, .slice none 0 0]) (t := 28) ?hr ?_; (case hd => rfl); (case hg => rfl); (case hr => first | (go_simp; done) | (go_simp; rfl)); intro gn hg w16 hbox hb; have BM := Aside0.mk hbox; have BW := Aside0.mk (below_step BR.out hb); have GM := Aside0.mk ((by rw [hg]; exact below_size BR.out) : b.heap.size ≤ gn); have hcgn0 : w16.cell? ⟨gn, 0, none⟩ = some (.slice none 0 0) := (blk_cell BM.out 0).trans rfl; have hfcgn0 := blk_frozen BM.out 0; have hcgn1 : w16.cell? ⟨gn, 1, none⟩ = some (.slice none 0 0) := (blk_cell BM.out 1).trans rfl; have hfcgn1 := blk_frozen BM.out 1; have hcgn2 : w16.cell? ⟨gn, 2, none⟩ = some (.slice none 0 0) := (blk_cell BM.out 2).trans rfl; have hfcgn2 := blk_frozen BM.out 2; have hcgn3 : w16.cell? ⟨gn, 3, none⟩ = some (.slice none 0 0) := (blk_cell BM.out 3).trans rfl; have hfcgn3 := blk_frozen BM.out 3; have hcgn4 : w16.cell? ⟨gn, 4, none⟩ = some (.slice none 0 0) := (blk_cell BM.out 4).trans rfl; have hfcgn4 := blk_frozen BM.out 4; have hcgn5 : w16.cell? ⟨gn, 5, none⟩ = some (.slice none 0 0) := (blk_cell BM.out 5).trans rfl; have hfcgn5 := blk_frozen BM.out 5; clear hg hbox hb))
              replace BW := Aside0.mk (show Below b.heap.size b ((((((w16.setCell ⟨gn, 0, none⟩ (.slice P0 p0.length e0)).setCell ⟨gn, 1, none⟩ (.slice P1 p1.length e1)).setCell ⟨gn, 2, none⟩ (.slice P2 p2.length e2)).setCell ⟨gn, 3, none⟩ (.slice P3 p3.length e3)).setCell ⟨gn, 4, none⟩ (.slice P4 p4.length e4)).setCell ⟨gn, 5, none⟩ (.slice P5 p5.length e5)) from below_set (below_set (below_set (below_set (below_set (below_set (BW.out) GM.out) GM.out) GM.out) GM.out) GM.out) GM.out)
              replace BM := Aside0.mk (show ((((((w16.setCell ⟨gn, 0, none⟩ (.slice P0 p0.length e0)).setCell ⟨gn, 1, none⟩ (.slice P1 p1.length e1)).setCell ⟨gn, 2, none⟩ (.slice P2 p2.length e2)).setCell ⟨gn, 3, none⟩ (.slice P3 p3.length e3)).setCell ⟨gn, 4, none⟩ (.slice P4 p4.length e4)).setCell ⟨gn, 5, none⟩ (.slice P5 p5.length e5)).heap[gn]? = some (.cells #[.slice P0 p0.length e0, .slice P1 p1.length e1, .slice P2 p2.length e2, .slice P3 p3.length e3, .slice P4 p4.length e4, .slice P5 p5.length e5] 28 (0, 0)) from blk_put (blk_put (blk_put (blk_put (blk_put (blk_put (BM.out) 0 _ rfl) 1 _ rfl) 2 _ rfl) 3 _ rfl) 4 _ rfl) 5 _ rfl)
              generalize ((((((w16.setCell ⟨gn, 0, none⟩ (.slice P0 p0.length e0)).setCell ⟨gn, 1, none⟩ (.slice P1 p1.length e1)).setCell ⟨gn, 2, none⟩ (.slice P2 p2.length e2)).setCell ⟨gn, 3, none⟩ (.slice P3 p3.length e3)).setCell ⟨gn, 4, none⟩ (.slice P4 p4.length e4)).setCell ⟨gn, 5, none⟩ (.slice P5 p5.length e5)) = w16n at BW BM ⊢
              clear hcgn0 hfcgn0 hcgn1 hfcgn1 hcgn2 hfcgn2 hcgn3 hfcgn3 hcgn4 hfcgn4 hcgn5 hfcgn5 fp0 fp1 fp2 fp3 fp4 fp5
              have hm4 : w16n.cell? ⟨gn, 4, none⟩ = some (.slice P4 p4.length e4) := (blk_cell BM.out 4).trans rfl
              have hf4 := blk_frozen BM.out 4
              clear BR fq5
              go_upto_region 27 with (fail)
              replace BW := Aside0.mk (show Below b.heap.size b (w16n.setCell ⟨gn, 4, none⟩ (.slice none 0 0)) from below_set BW.out GM.out)
              replace BM := Aside0.mk (show (w16n.setCell ⟨gn, 4, none⟩ (.slice none 0 0)).heap[gn]? = some (.cells #[.slice P0 p0.length e0, .slice P1 p1.length e1, .slice P2 p2.length e2, .slice P3 p3.length e3, .slice none 0 0, .slice P5 p5.length e5] 28 (0, 0)) from blk_put BM.out 4 _ rfl)
              generalize w16n.setCell ⟨gn, 4, none⟩ (.slice none 0 0) = w17 at BW BM ⊢
              clear hm4 hf4
              go_wp2
              go_loopg [20] p4.length (fun gg s20 wr => ∃ (kk : Nat) (vq : Value), kk ≤ p4.length ∧ p4.length - kk ≤ gg ∧ s20 = .int .i64 kk ∧ Aside0 (Below b.heap.size b wr) ∧ Aside0 (wr.heap[gn]? = some (.cells #[.slice P0 p0.length e0, .slice P1 p1.length e1, .slice P2 p2.length e2, .slice P3 p3.length e3, vq, .slice P5 p5.length e5] 28 (0, 0))) ∧ Aside0 (Kd.N k34 34 wr b.heap.size (fun k => k ≠ gn) vq ((p4.take kk).filter fun x => x.f1)))
              case atStart => exact ⟨0, .slice none 0 0, Nat.zero_le _, by omega, rfl, BW, BM, ⟨Kd.N_nil _ _ _ _ _⟩⟩
              case round =>
                clear BW BM
                obtain ⟨kk, vq, hkk, hgk, rfl, BR, MR, NR⟩ := hrel
                have fp4 := Bc BR.out CP4.out
                obtain ⟨Lq, hLq⟩ : ∃ Lq, Lq = ((p4.take kk).filter fun x => x.f1) := ⟨_, rfl⟩
                rw [← hLq] at NR
                have HLQ := Aside0.mk hLq
                clear hLq
                obtain ⟨Aq, cq_, rfl⟩ := Kd.N_slice NR.out
                by_cases hlt : kk < p4.length
                · have hltz : (kk : Int) < (p4.length : Int) := by omega
                  have pz : (0 ≤ (kk : Int)) = True := eq_true (by omega)
                  have qz : ((kk : Int) < (p4.length : Int)) = True := eq_true hltz
                  obtain ⟨ad, A6, c6, A7, c7, A8, c8, A9, c9, rfl, hx0, hx1, hx2, hx3, hx4, hx5, hl2, hi2, hl3, hi3, hl4, hi4, hl5, hi5⟩ := at_T34 K4.out (kk : Int) (by omega) hltz
                  have hy : rd_T34 p4 (kk : Int) = p4[kk] := by
                    unfold rd_T34
                    rw [Int.toNat_natCast, List.getD_eq_getElem?_getD, List.getElem?_eq_getElem hlt]; rfl
                  rw [hy] at hx0 hx1 hx2 hx3 hx4 hx5 hl2 hi2 hl3 hi3 hl4 hi4 hl5 hi5
                  rw [Int.toNat_natCast] at hx0 hx1 hx2 hx3 hx4 hx5
                  obtain ⟨x, hxx⟩ : ∃ x, x = p4[kk] := ⟨_, rfl⟩
                  rw [← hxx] at hx0 hx1 hx2 hx3 hx4 hx5 hl2 hi2 hl3 hi3 hl4 hi4 hl5 hi5
                  have HX := Aside0.mk hxx
                  have I2 := Aside0.mk (And.intro hl2 hi2)
                  have I3 := Aside0.mk (And.intro hl3 hi3)
                  have I4 := Aside0.mk (And.intro hl4 hi4)
                  have I5 := Aside0.mk (And.intro hl5 hi5)
                  obtain ⟨dy, hdy⟩ : ∃ dy, dy = x.f1 := ⟨_, rfl⟩
                  have HDY := Aside0.mk hdy
                  rw [← hdy] at hx1
                  have HX0 := Aside0.mk hx0
                  have HX1 := Aside0.mk hx1
                  have HX2 := Aside0.mk hx2
                  have HX3 := Aside0.mk hx3
                  have HX4 := Aside0.mk hx4
                  have HX5 := Aside0.mk hx5
                  have fx1 := Bc BR.out HX1.out
                  clear hi2 hi3 hi4 hi5 hl2 hl3 hl4 hl5 hy hxx hx0 hx1 hx2 hx3 hx4 hx5 hdy
                  cases dy
                  · go_wp2
                    go_roundg (p4.length - (kk + 1))
                    case measure => omega
                    case rel =>
                      refine ⟨kk + 1, _, by omega, by omega, by go_num, BR, MR, ⟨?_⟩⟩
                      rw [List.take_succ_eq_append_getElem hlt, List.filter_append, ← HLQ.out, ← HX.out]
                      simp only [List.filter_cons, List.filter_nil, ← HDY.out, Bool.false_eq_true, if_false, List.append_nil]
                      exact NR.out
                  · go_upto_region 31 with (fail)
                    replace BR := Aside0.mk (below_drew1 BR.out)
                    replace MR := Aside0.mk (blk_drew MR.out)
                    replace NR := Aside0.mk (Kd.N_drew NR.out)
                    refine start_ (n := 11) (S := fun w' => w'.cell? ⟨gn, 4, none⟩ = some (.slice Aq Lq.length cq_) ∧ w'.cell? ⟨gp, 4, none⟩ = some (.slice (some ad) p4.length e4) ∧ w'.cell? (ad.add (kk * 6)) = some (.string x.f0) ∧ w'.cell? ⟨(ad.add (kk * 6)).block, (ad.add (kk * 6)).off + 1, none⟩ = some (.bool true) ∧ w'.cell? ⟨(ad.add (kk * 6)).block, (ad.add (kk * 6)).off + 2, none⟩ = some (.slice A6 x.f2.length c6) ∧ w'.cell? ⟨(ad.add (kk * 6)).block, (ad.add (kk * 6)).off + 3, none⟩ = some (.slice A7 x.f3.length c7) ∧ w'.cell? ⟨(ad.add (kk * 6)).block, (ad.add (kk * 6)).off + 4, none⟩ = some (.slice A8 x.f4.length c8) ∧ w'.cell? ⟨(ad.add (kk * 6)).block, (ad.add (kk * 6)).off + 5, none⟩ = some (.slice A9 x.f5.length c9)) (ds := [10]) #[false, false, false, false, false, false, false, false, false, false, false] (by kernel_rfl) rfl rfl ⟨(blk_cell MR.out 4).trans rfl, Bc BR.out CP4.out, Bc BR.out HX0.out, Bc BR.out HX1.out, Bc BR.out HX2.out, Bc BR.out HX3.out, Bc BR.out HX4.out, Bc BR.out HX5.out⟩ (fun hHeld => ?_); refine with_tabW gu.tab31 gu.bits31 (fun HT_ HW_ => ?_)
                    generalize wr.drew = w20 at BR MR NR hHeld ⊢
                    clear fp4 fx1
                    refine pure_ (i := 0) (N := some 180) (v := ?_) (a' := ?_) #[true, false, false, false, false, false, false, false, false, false, false] rfl rfl (any_of HT_.out (by kernel_rfl)) (fun _ _ _ h => h) (Or.inl ⟨by rfl, ?_⟩) ?_ ?_
                    rotate_left
                    · intro w'
                      go_simp
                      with_reducible rfl
                    rotate_left
                    · simp only [Act.put, List.setIfInBounds_toArray, List.set_cons_zero, List.set_cons_succ, i64_w, i32_w]
                      rfl
                    refine take_ (i := 1) (N := some 181) (v := ?_) (a' := ?_) #[true, true, false, false, false, false, false, false, false, false, false] rfl rfl (take_ofW HT_.out HW_.out (by kernel_rfl)) (fun _ _ _ h => h) (Or.inl ⟨by rfl, ?_⟩) hHeld ?_ ?_
                    rotate_left
                    · rintro w' ⟨s0, s1, s2, s3, s4, s5, s6, s7⟩
                      go_simp
                      with_reducible rfl
                    rotate_left
                    · simp only [Act.put, List.setIfInBounds_toArray, List.set_cons_zero, List.set_cons_succ, i64_w, i32_w]
                      rfl
                    refine pure_ (i := 2) (N := some 182) (v := ?_) (a' := ?_) #[true, true, true, false, false, false, false, false, false, false, false] rfl rfl (any_of HT_.out (by kernel_rfl)) (fun _ _ _ h => h) (Or.inl ⟨by rfl, ?_⟩) ?_ ?_
                    rotate_left
                    · intro w'
                      go_simp
                      with_reducible rfl
                    rotate_left
                    · simp only [Act.put, List.setIfInBounds_toArray, List.set_cons_zero, List.set_cons_succ, i64_w, i32_w]
                      rfl
                    refine take_ (i := 3) (N := some 183) (v := ?_) (a' := ?_) #[true, true, true, true, false, false, false, false, false, false, false] rfl rfl (take_ofW HT_.out HW_.out (by kernel_rfl)) (fun _ _ _ h => h) (Or.inl ⟨by rfl, ?_⟩) hHeld ?_ ?_
                    rotate_left
                    · rintro w' ⟨s0, s1, s2, s3, s4, s5, s6, s7⟩
                      go_simp
                      with_reducible rfl
                    rotate_left
                    · simp only [Act.put, List.setIfInBounds_toArray, List.set_cons_zero, List.set_cons_succ, i64_w, i32_w]
                      rfl
                    refine pure_ (i := 4) (N := some 184) (v := ?_) (a' := ?_) #[true, true, true, true, true, false, false, false, false, false, false] rfl rfl (any_of HT_.out (by kernel_rfl)) (fun _ _ _ h => h) (Or.inl ⟨by rfl, ?_⟩) ?_ ?_
                    rotate_left
                    · intro w'
                      go_simp
                      with_reducible rfl
                    rotate_left
                    · simp only [Act.put, List.setIfInBounds_toArray, List.set_cons_zero, List.set_cons_succ, i64_w, i32_w]
                      rfl
                    refine pure_ (i := 5) (N := some 185) (v := ?_) (a' := ?_) #[true, true, true, true, true, true, false, false, false, false, false] rfl rfl (any_of HT_.out (by kernel_rfl)) (fun _ _ _ h => h) (Or.inl ⟨by rfl, ?_⟩) ?_ ?_
                    rotate_left
                    · intro w'
                      go_simp
                      with_reducible rfl
                    rotate_left
                    · simp only [Act.put, List.setIfInBounds_toArray, List.set_cons_zero, List.set_cons_succ, i64_w, i32_w]
                      rfl
                    refine take_ (i := 6) (N := some 186) (v := ?_) (a' := ?_) #[true, true, true, true, true, true, true, false, false, false, false] rfl rfl (take_ofW HT_.out HW_.out (by kernel_rfl)) (fun _ _ _ h => h) (Or.inl ⟨by rfl, ?_⟩) hHeld ?_ ?_
                    rotate_left
                    · rintro w' ⟨s0, s1, s2, s3, s4, s5, s6, s7⟩
                      go_simp
                      with_reducible rfl
                    rotate_left
                    · simp only [Act.put, List.setIfInBounds_toArray, List.set_cons_zero, List.set_cons_succ, i64_w, i32_w]
                      rfl
                    have hgm := blk_lt MR.out
                    have hbd := below_size BR.out
                    have hgb := GM.out
                    refine one_ (i := 7) (N := some 187) #[true, true, true, true, true, true, true, true, false, false, false] rfl rfl (one_of HT_.out (by kernel_rfl)) (by decide) (fun K hK => ?_)
                    replace hK := Aside0.mk hK
                    have FX : Kd.FK k34 w20 (fun k => k < b.heap.size) x [.string x.f0, .bool true, .slice A6 x.f2.length c6, .slice A7 x.f3.length c7, .slice A8 x.f4.length c8, .slice A9 x.f5.length c9] := by rw [HDY.out]; exact k34_mkF w20 (fun k => k < b.heap.size) x I2.out.1 (Kd.F_mono (Kd.F_below (Kd.C_F Kd.heap_string I2.out.2) BR.out) (fun k hk => hk)) I3.out.1 (Kd.F_mono (Kd.F_below (Kd.C_F Kd.heap_string I3.out.2) BR.out) (fun k hk => hk)) I4.out.1 (Kd.F_mono (Kd.F_below (Kd.C_F Kd.heap_string I4.out.2) BR.out) (fun k hk => hk)) I5.out.1 (Kd.F_mono (Kd.F_below (Kd.C_F Kd.heap_string I5.out.2) BR.out) (fun k hk => hk))
                    refine Kd.N_lit_step k34 (w0 := b) b.heap.size 34 ?hg (N' := 187) ?hd (xs := ([x] : List S34)) (inner := [.string x.f0, .bool true, .slice A6 x.f2.length c6, .slice A7 x.f3.length c7, .slice A8 x.f4.length c8, .slice A9 x.f5.length c9]) (ok := fun k => k < b.heap.size ∨ k = w20.heap.size) (okp := fun k => k < b.heap.size) ?hr ?hp (fun _ hk => Or.inl hk) (Or.inr rfl) BR.out hbd (by simp) ?_
                    (case hd => rfl)
                    (case hg => rfl)
                    (case hr => first | (go_simp; done) | (go_simp; rfl))
                    (case hp => exact Reps.front FX rfl (Reps.none _ _) rfl)
                    intro v187 w21 n9 b9 hgr9 hfr9
                    obtain ⟨A54, c54, rfl⟩ := Kd.N_slice n9
                    have M21 := Aside0.mk (blk_below MR.out (below_grown hgr9))
                    have N21 := Aside0.mk (Kd.N_below NR.out (below_grown hgr9))
                    have hown : ∀ k, (Value.slice Aq Lq.length cq_).ownBlock = some k → b.heap.size ≤ k ∧ k < w20.heap.size := fun k hk => ⟨Kd.N_base NR.out k hk, Kd.N_lt NR.out k hk⟩
                    have hw21 := hgr9.size
                    refine hK.out _ _ ⟨(blk_cell M21.out 4).trans rfl, Bc b9 CP4.out, Bc b9 HX0.out, Bc b9 HX1.out, Bc b9 HX2.out, Bc b9 HX3.out, Bc b9 HX4.out, Bc b9 HX5.out⟩ (fun hHeld => ?_)
                    clear hK K
                    refine norm_ (a' := ?_) ?_ ?_
                    rotate_left
                    · show Act.put _ (some 187) _ = _
                      simp only [Act.put, List.setIfInBounds_toArray, List.set_cons_zero, List.set_cons_succ, i64_w, i32_w]
                      rfl
                    refine one_ (i := 8) (N := some 188) #[true, true, true, true, true, true, true, true, true, false, false] rfl rfl (one_of HT_.out (by kernel_rfl)) (by decide) (fun K hK => ?_)
                    replace hK := Aside0.mk hK
                    have HLL := Aside0.mk (show Lq.length ≤ 8 by rw [HLQ.out]; exact Nat.le_trans (List.length_filter_le _ _) (by rw [List.length_take]; omega))
                    obtain ⟨Lx, hLx⟩ : ∃ L, L = Lq ++ ([x] : List S34) := ⟨_, rfl⟩
                    refine Kd.N_append_rows_step k34 (w0 := b) b.heap.size (by rfl) (.tmp 181) (.tmp 187) 25 34 (.agg #[(.string ⟨#[]⟩), (.bool false), (.slice none 0 0), (.slice none 0 0), (.slice none 0 0), (.slice none 0 0)]) 120 rfl Try.underlying25 info34 rfl (by decide) (by omega) (.slice Aq Lq.length cq_) Lq ([x] : List S34) A54 1 c54 (fun k => k ≠ gn) (fun k => k < b.heap.size ∨ k = w20.heap.size) rfl rfl N21.out (Kd.N_F n9) ?aK ?aF b9 ?hb ?aL ?_
                    (case aK => exact fun k hk => ⟨by omega, fun e_ => by have h1 := hown k e_.symm; omega⟩)
                    (case aF => exact fun k hk => by show k ≠ gn; omega)
                    (case hb => omega)
                    (case aL => have := HLL.out; omega)
                    intro v188 w22 n5 b5 hgr5 hat5
                    rw [← hLx] at n5
                    obtain ⟨A55, c55, rfl⟩ := Kd.N_slice n5
                    have M22 := Aside0.mk ((hgr5.block gn (blk_lt M21.out) (fun e_ => (N21.out.1 gn e_.symm) rfl)).trans M21.out)
                    have tm : w22.cell? ⟨gn, 4, none⟩ = some (.slice Aq Lq.length cq_) := (blk_cell M22.out 4).trans rfl
                    have tf := blk_frozen M22.out 4
                    refine hK.out _ _ ⟨(blk_cell M22.out 4).trans rfl, Bc b5 CP4.out, Bc b5 HX0.out, Bc b5 HX1.out, Bc b5 HX2.out, Bc b5 HX3.out, Bc b5 HX4.out, Bc b5 HX5.out⟩ (fun hHeld => ?_)
                    clear hK K
                    refine norm_ (a' := ?_) ?_ ?_
                    rotate_left
                    · show Act.put _ (some 188) _ = _
                      simp only [Act.put, List.setIfInBounds_toArray, List.set_cons_zero, List.set_cons_succ, i64_w, i32_w]
                      rfl
                    have N22 := Aside0.mk n5
                    have B22 := Aside0.mk b5
                    have HLX := Aside0.mk hLx
                    clear n5 b5 hgr5 hat5 n9 b9 hgr9 hfr9 hown hw21 FX hLx M21 N21 BR MR NR hgm hbd hgb
                    refine pure_ (i := 9) (N := some 189) (v := ?_) (a' := ?_) #[true, true, true, true, true, true, true, true, true, true, false] rfl rfl (any_of HT_.out (by kernel_rfl)) (fun _ _ _ h => h) (Or.inl ⟨by rfl, ?_⟩) ?_ ?_
                    rotate_left
                    · intro w'
                      go_simp
                      with_reducible rfl
                    rotate_left
                    · simp only [Act.put, List.setIfInBounds_toArray, List.set_cons_zero, List.set_cons_succ, i64_w, i32_w]
                      rfl
                    refine last_ (i := 10) (N := none) #[true, true, true, true, true, true, true, true, true, true, true] rfl rfl (one_of HT_.out (by kernel_rfl)) (by decide) (fun K hK => ?_)
                    refine skip_ (w1 := ?_) (by rfl) rfl ?_ ?_
                    rotate_left
                    · go_simp
                      rfl
                    refine hK _ _ ?_
                    refine done_ (done_of HT_.out (by kernel_rfl)) ?_
                    try go_wp2
                    go_roundg (p4.length - (kk + 1))
                    case measure => omega
                    case rel =>
                      refine ⟨kk + 1, .slice A55 Lx.length c55, by omega, by omega, by go_num, ⟨below_set B22.out GM.out⟩, ⟨blk_put M22.out 4 _ rfl⟩, ⟨?_⟩⟩
                      have e_ : ((p4.take (kk + 1)).filter fun x => x.f1) = Lx := by
                        rw [List.take_succ_eq_append_getElem hlt, List.filter_append, ← HLQ.out, ← HX.out, HLX.out]
                        simp only [List.filter_cons, List.filter_nil, ← HDY.out, if_true]
                      rw [e_]
                      exact Kd.N_far (p := ⟨gn, 4, none⟩) N22.out (fun k hk => hk) _
                · have hltz : ¬ (kk : Int) < (p4.length : Int) := by omega
                  obtain rfl : kk = p4.length := by omega
                  rw [List.take_length] at HLQ
                  rw [← HLQ.out] at HN
                  have fp0 := Bc BR.out CP0.out
                  have fp1 := Bc BR.out CP1.out
                  have fp2 := Bc BR.out CP2.out
                  go_upto_region 32 with (fail)
                  go_upto_region 33 with (first | ((with_reducible refine gate_dst (N := 198) rfl ?_); (try (refine gate_guard (by rfl) ?_; dsimp only)); refine Kd.R_lit Kd.string _ 9 ?hg (N := 198) ?hd (xs := ([(⟨#[42]⟩ : ByteArray)] : List ByteArray)) (inner := [.string (⟨#[42]⟩ : ByteArray)]) (ok := fun k => wr.heap.size ≤ k) (okp := fun k => wr.heap.size ≤ k) ?hr ?hp (fun _ hk => hk) (Nat.le_refl _) (Below.refl _ _) (Nat.le_refl _) (by simp) ?_; (case hd => rfl); (case hg => rfl); (case hr => first | (go_simp; done) | (go_simp; rfl)); (case hp => exact (Reps.one (show Kd.M Kd.string _ _ _ (⟨#[42]⟩ : ByteArray) [.string (⟨#[42]⟩ : ByteArray)] from rfl) (Reps.none _ _))); intro v198 w31 ho hb hg_ hn_; obtain ⟨A198, c198, rfl⟩ := Kd.R_slice ho; have O198 := Aside0.mk (Kd.R_reads' ho).2; have B31 := Aside0.mk hb; clear ho hb hg_ hn_) | ((with_reducible refine gate_dst (N := 199) rfl ?_); (try (refine gate_guard (by rfl) ?_; dsimp only)); refine Kd.R_lit Kd.string _ 9 ?hg (N := 199) ?hd (xs := ([(⟨#[42]⟩ : ByteArray)] : List ByteArray)) (inner := [.string (⟨#[42]⟩ : ByteArray)]) (ok := fun k => w31.heap.size ≤ k) (okp := fun k => w31.heap.size ≤ k) ?hr ?hp (fun _ hk => hk) (Nat.le_refl _) (Below.refl _ _) (Nat.le_refl _) (by simp) ?_; (case hd => rfl); (case hg => rfl); (case hr => first | (go_simp; done) | (go_simp; rfl)); (case hp => exact (Reps.one (show Kd.M Kd.string _ _ _ (⟨#[42]⟩ : ByteArray) [.string (⟨#[42]⟩ : ByteArray)] from rfl) (Reps.none _ _))); intro v199 w32 ho hb hg_ hn_; obtain ⟨A199, c199, rfl⟩ := Kd.R_slice ho; have O199 := Aside0.mk (Kd.R_reads' ho).2; have B32 := Aside0.mk hb; clear ho hb hg_ hn_) | ((with_reducible refine gate_dst (N := 201) rfl ?_); (try (refine gate_guard (by rfl) ?_; dsimp only)); refine Kd.N_lit k34 (w0 := w32) w32.heap.size 34 ?hg (N' := 201) ?hd (xs := ([(⟨(⟨#[97]⟩ : ByteArray), false, p0, [], [(⟨#[42]⟩ : ByteArray)], [(⟨#[42]⟩ : ByteArray)]⟩ : S34)] : List S34)) (inner := [.string (⟨#[97]⟩ : ByteArray), .bool false, .slice P0 p0.length e0, .slice none 0 0, .slice A198 1 c198, .slice A199 1 c199]) (ok := fun _ => True) (okp := fun k => k < w32.heap.size) ?hr ?hp (fun _ _ => trivial) trivial (Below.refl _ _) (Nat.le_refl _) (by simp) ?_; (case hd => rfl); (case hg => rfl); (case hr => first | (go_simp; done) | (go_simp; rfl)); (case hp => exact Reps.front (k34_mkF w32 (fun k => k < w32.heap.size) (⟨(⟨#[97]⟩ : ByteArray), false, p0, [], [(⟨#[42]⟩ : ByteArray)], [(⟨#[42]⟩ : ByteArray)]⟩ : S34) mP0 (Kd.C_F Kd.heap_string (Kd.C_below K0.out (below_step (below_step BR.out B31.out) B32.out))) (Nat.zero_le _) (Kd.F_nil Kd.string w32 _) O198.out.1 (Kd.C_F Kd.heap_string (Kd.C_below O198.out.2 B32.out)) O199.out.1 (Kd.C_F Kd.heap_string O199.out.2)) rfl (Reps.none _ _) rfl); intro v201 w33 ho hb hg_ hn_; obtain ⟨A201, c201, rfl⟩ := Kd.N_slice ho; have CL := Aside0.mk (Kd.N_reads' ho).2; have B33 := Aside0.mk (below_step (below_step B31.out B32.out) hb); clear ho hb hg_ hn_) | ((with_reducible refine gate_dst (N := 21) rfl ?_); (try (refine gate_guard (by rfl) ?_; dsimp only)); refine box_event ?hg (N := 21) ?hd (cs := #[.slice none 0 0, .slice none 0 0, .slice none 0 0, .slice none 0 0, .slice none 0 0, .slice none 0 0]) (t := 28) ?hr ?_; (case hd => rfl); (case hg => rfl); (case hr => first | (go_simp; done) | (go_simp; rfl)); intro gl hg w34 hbox hb; have ML := Aside0.mk hbox; have B34 := Aside0.mk hb; have GL := Aside0.mk ((by rw [hg]; exact Nat.le_refl _) : w33.heap.size ≤ gl); have hcgl0 : w34.cell? ⟨gl, 0, none⟩ = some (.slice none 0 0) := (blk_cell ML.out 0).trans rfl; have hfcgl0 := blk_frozen ML.out 0; have hcgl1 : w34.cell? ⟨gl, 1, none⟩ = some (.slice none 0 0) := (blk_cell ML.out 1).trans rfl; have hfcgl1 := blk_frozen ML.out 1; have hcgl2 : w34.cell? ⟨gl, 2, none⟩ = some (.slice none 0 0) := (blk_cell ML.out 2).trans rfl; have hfcgl2 := blk_frozen ML.out 2; have hcgl3 : w34.cell? ⟨gl, 3, none⟩ = some (.slice none 0 0) := (blk_cell ML.out 3).trans rfl; have hfcgl3 := blk_frozen ML.out 3; have hcgl4 : w34.cell? ⟨gl, 4, none⟩ = some (.slice none 0 0) := (blk_cell ML.out 4).trans rfl; have hfcgl4 := blk_frozen ML.out 4; have hcgl5 : w34.cell? ⟨gl, 5, none⟩ = some (.slice none 0 0) := (blk_cell ML.out 5).trans rfl; have hfcgl5 := blk_frozen ML.out 5; clear hg hbox hb))
                  replace B34 := Aside0.mk (show Below w33.heap.size w33 ((((((w34.setCell ⟨gl, 0, none⟩ (.slice P0 p0.length e0)).setCell ⟨gl, 1, none⟩ (.slice P1 p1.length e1)).setCell ⟨gl, 2, none⟩ (.slice P2 p2.length e2)).setCell ⟨gl, 3, none⟩ (.slice none 0 0)).setCell ⟨gl, 4, none⟩ (.slice A201 1 c201)).setCell ⟨gl, 5, none⟩ (.slice none 0 0)) from below_set (below_set (below_set (below_set (below_set (below_set (B34.out) GL.out) GL.out) GL.out) GL.out) GL.out) GL.out)
                  replace ML := Aside0.mk (show ((((((w34.setCell ⟨gl, 0, none⟩ (.slice P0 p0.length e0)).setCell ⟨gl, 1, none⟩ (.slice P1 p1.length e1)).setCell ⟨gl, 2, none⟩ (.slice P2 p2.length e2)).setCell ⟨gl, 3, none⟩ (.slice none 0 0)).setCell ⟨gl, 4, none⟩ (.slice A201 1 c201)).setCell ⟨gl, 5, none⟩ (.slice none 0 0)).heap[gl]? = some (.cells #[.slice P0 p0.length e0, .slice P1 p1.length e1, .slice P2 p2.length e2, .slice none 0 0, .slice A201 1 c201, .slice none 0 0] 28 (0, 0)) from blk_put (blk_put (blk_put (blk_put (blk_put (blk_put (ML.out) 0 _ rfl) 1 _ rfl) 2 _ rfl) 3 _ rfl) 4 _ rfl) 5 _ rfl)
                  generalize ((((((w34.setCell ⟨gl, 0, none⟩ (.slice P0 p0.length e0)).setCell ⟨gl, 1, none⟩ (.slice P1 p1.length e1)).setCell ⟨gl, 2, none⟩ (.slice P2 p2.length e2)).setCell ⟨gl, 3, none⟩ (.slice none 0 0)).setCell ⟨gl, 4, none⟩ (.slice A201 1 c201)).setCell ⟨gl, 5, none⟩ (.slice none 0 0)) = w35 at B34 ML ⊢
                  clear hcgl0 hfcgl0 hcgl1 hfcgl1 hcgl2 hfcgl2 hcgl3 hfcgl3 hcgl4 hfcgl4 hcgl5 hfcgl5 fp0 fp1 fp2 fp4 O198 O199 B31 B32
                  have B35 := Aside0.mk (below_step B33.out B34.out)
                  have BX := Aside0.mk (below_step BR.out B35.out)
                  have MN := Aside0.mk (blk_below MR.out B35.out)
                  have CN := Aside0.mk (Kd.C_below (Kd.N_reads' NR.out).2.2 B35.out)
                  have CNl := Aside0.mk (Kd.N_reads' NR.out).2.1
                  have CLl := Aside0.mk CL.out.1
                  replace CL := Aside0.mk (Kd.C_below CL.out.2 B34.out)
                  replace CL : Aside0 (Kd.C k34 w35 A201 1 [(⟨(⟨#[97]⟩ : ByteArray), false, p0, [], [(⟨#[42]⟩ : ByteArray)], [(⟨#[42]⟩ : ByteArray)]⟩ : S34)]) := CL
                  clear B35 B33 B34 BR MR NR
                  have HTC := Aside0.mk (show ∀ W, Below b.heap.size b W → Kd.C k34 W A201 1 [(⟨(⟨#[97]⟩ : ByteArray), false, p0, [], [(⟨#[42]⟩ : ByteArray)], [(⟨#[42]⟩ : ByteArray)]⟩ : S34)] → Calls Try.prog 9 #[.agg #[.slice P0 p0.length e0, .slice P1 p1.length e1, .slice P2 p2.length e2, .slice none 0 0, .slice A201 1 c201, .slice none 0 0], .string u, .string a, .string o] W (fun e w' => e = .returned (.bool told) ∧ Below W.heap.size W w') from fun W hB hC => glob_May.calls k _ _ p0 _ _ p1 _ _ p2 _ _ ([] : List S36) _ _ [(⟨(⟨#[97]⟩ : ByteArray), false, p0, [], [(⟨#[42]⟩ : ByteArray)], [(⟨#[42]⟩ : ByteArray)]⟩ : S34)] _ _ ([] : List S51) u a o told W (Kd.C_below K0.out hB) mP0 (Kd.C_below K1.out hB) mP1 (Kd.C_below K2.out hB) mP2 (Kd.F_now (Kd.F_nil k36 _ (fun _ => True))) (Nat.zero_le 0) hC CLl.out (Kd.F_now (Kd.F_nil k51 _ (fun _ => True))) (Nat.zero_le 0) HT.out)
                  have fa1 := Bc BX.out CA1.out
                  have fa2 := Bc BX.out CA2.out
                  have fa3 := Bc BX.out CA3.out
                  go_upto_region 34 with (fail)
                  clear fa1 fa2 fa3
                  all_goals
                    first
                      | (have h : u.toList = [120] := (by assumption); obtain rfl : told = false := (by rw [HTD.out, h]; rfl))
                      | (have h : a.toList = [122] := (by assumption); obtain rfl : told = false := (by rw [HTD.out, h]; simp))
                      | (have h1 : ¬ u.toList = [120] := (by assumption); have h2 : ¬ a.toList = [122] := (by assumption); have e_ : told = !(o.toList == [99]) := (by rw [HTD.out, bne_iff_ne.2 h1, bne_iff_ne.2 h2]; rfl); rw [← e_]; clear e_)
                    clear HTD
                    cases was
                  all_goals first | (exact absurd (HWT.out rfl) (by decide)) | skip
                  all_goals
                    first | (obtain rfl : told = true := HWT.out rfl) | skip
                    have n0 : w35.cell? ⟨gn, 0, none⟩ = some (.slice P0 p0.length e0) := (blk_cell MN.out 0).trans rfl; have n1 : w35.cell? ⟨gn, 1, none⟩ = some (.slice P1 p1.length e1) := (blk_cell MN.out 1).trans rfl; have n2 : w35.cell? ⟨gn, 2, none⟩ = some (.slice P2 p2.length e2) := (blk_cell MN.out 2).trans rfl; have n3 : w35.cell? ⟨gn, 3, none⟩ = some (.slice P3 p3.length e3) := (blk_cell MN.out 3).trans rfl; have n4 : w35.cell? ⟨gn, 4, none⟩ = some (.slice Aq Lq.length cq_) := (blk_cell MN.out 4).trans rfl; have n5 : w35.cell? ⟨gn, 5, none⟩ = some (.slice P5 p5.length e5) := (blk_cell MN.out 5).trans rfl; have l0_ : w35.cell? ⟨gl, 0, none⟩ = some (.slice P0 p0.length e0) := (blk_cell ML.out 0).trans rfl; have l1_ : w35.cell? ⟨gl, 1, none⟩ = some (.slice P1 p1.length e1) := (blk_cell ML.out 1).trans rfl; have l2_ : w35.cell? ⟨gl, 2, none⟩ = some (.slice P2 p2.length e2) := (blk_cell ML.out 2).trans rfl; have l3_ : w35.cell? ⟨gl, 3, none⟩ = some (.slice none 0 0) := (blk_cell ML.out 3).trans rfl; have l4_ : w35.cell? ⟨gl, 4, none⟩ = some (.slice A201 1 c201) := (blk_cell ML.out 4).trans rfl; have l5_ : w35.cell? ⟨gl, 5, none⟩ = some (.slice none 0 0) := (blk_cell ML.out 5).trans rfl; have fa1 := Bc BX.out CA1.out; have fa2 := Bc BX.out CA2.out; have fa3 := Bc BX.out CA3.out
                    go_wp2_with (first | (go_at_call 9; (with_reducible refine (glob_May.calls k _ _ p0 _ _ p1 _ _ p2 _ _ p3 _ _ Lq _ _ p5 u a o false _ ?c0 ?d0 ?c1 ?d1 ?c2 ?d2 ?c3 ?d3 ?c4 ?d4 ?c5 ?d5 HN.out).mono ?_); (case c0 => exact Kd.C_below K0.out BX.out); (case d0 => exact mP0); (case c1 => exact Kd.C_below K1.out BX.out); (case d1 => exact mP1); (case c2 => exact Kd.C_below K2.out BX.out); (case d2 => exact mP2); (case c3 => exact Kd.C_below K3.out BX.out); (case d3 => exact mP3); (case c4 => exact CN.out); (case d4 => exact CNl.out); (case c5 => exact Kd.C_below K5.out BX.out); (case d5 => exact mP5); rintro e w37 ⟨rfl, hb⟩; replace BX := Aside0.mk (below_step BX.out hb); replace MN := Aside0.mk (blk_below MN.out hb); replace ML := Aside0.mk (blk_below ML.out hb); replace CN := Aside0.mk (Kd.C_below CN.out hb); replace CL := Aside0.mk (Kd.C_below CL.out hb); clear hb; clear n0 l0_ n1 l1_ n2 l2_ n3 l3_ n4 l4_ n5 l5_ fa1 fa2 fa3; have n0 : w37.cell? ⟨gn, 0, none⟩ = some (.slice P0 p0.length e0) := (blk_cell MN.out 0).trans rfl; have n1 : w37.cell? ⟨gn, 1, none⟩ = some (.slice P1 p1.length e1) := (blk_cell MN.out 1).trans rfl; have n2 : w37.cell? ⟨gn, 2, none⟩ = some (.slice P2 p2.length e2) := (blk_cell MN.out 2).trans rfl; have n3 : w37.cell? ⟨gn, 3, none⟩ = some (.slice P3 p3.length e3) := (blk_cell MN.out 3).trans rfl; have n4 : w37.cell? ⟨gn, 4, none⟩ = some (.slice Aq Lq.length cq_) := (blk_cell MN.out 4).trans rfl; have n5 : w37.cell? ⟨gn, 5, none⟩ = some (.slice P5 p5.length e5) := (blk_cell MN.out 5).trans rfl; have l0_ : w37.cell? ⟨gl, 0, none⟩ = some (.slice P0 p0.length e0) := (blk_cell ML.out 0).trans rfl; have l1_ : w37.cell? ⟨gl, 1, none⟩ = some (.slice P1 p1.length e1) := (blk_cell ML.out 1).trans rfl; have l2_ : w37.cell? ⟨gl, 2, none⟩ = some (.slice P2 p2.length e2) := (blk_cell ML.out 2).trans rfl; have l3_ : w37.cell? ⟨gl, 3, none⟩ = some (.slice none 0 0) := (blk_cell ML.out 3).trans rfl; have l4_ : w37.cell? ⟨gl, 4, none⟩ = some (.slice A201 1 c201) := (blk_cell ML.out 4).trans rfl; have l5_ : w37.cell? ⟨gl, 5, none⟩ = some (.slice none 0 0) := (blk_cell ML.out 5).trans rfl; have fa1 := Bc BX.out CA1.out; have fa2 := Bc BX.out CA2.out; have fa3 := Bc BX.out CA3.out) | (go_at_call 9; (with_reducible refine (HTC.out _ BX.out CL.out).mono ?_); rintro e w38 ⟨rfl, hb⟩; replace BX := Aside0.mk (below_step BX.out hb); clear MN ML CN CL hb; clear n0 l0_ n1 l1_ n2 l2_ n3 l3_ n4 l4_ n5 l5_ fa1 fa2 fa3) | (go_at_call 11; with_reducible refine (entaillaw24_awake.calls k true _ HAW.out).mono ?_; rintro e w39 ⟨rfl, hb⟩; replace BX := Aside0.mk (below_step BX.out hb); clear hb))
                  all_goals
                    go_ret
                    refine ⟨?_, below_step HB.out BX.out⟩
                    first | rfl | (have e1 : (u.toList == [120]) = false := beq_eq_false_iff_ne.2 h1; have e2 : (a.toList == [122]) = false := beq_eq_false_iff_ne.2 h2; show Ending.returned (Value.bool _) = Ending.returned (Value.bool true); rw [e1, e2]; simp)
end Go.Proofs.Ytppndhbeglcioaa.GA
