/- GlobGroups, walked through its code: given what Made, Ask, May, In and awake answer, it answers true; conditions: the policy that Made gives is of few rows. -/
import Derived.Test.YtppndhbeglcioaaMadeV
import Derived.Test.YtppndhbeglcioaaSm
import Derived.Test.YtppndhbeglcioaaCutN
import Derived.Test.YtppndhbeglcioaaGAx10
import Derived.Test.YtppndhbeglcioaaGAx13
import Derived.Test.YtppndhbeglcioaaGAx17
import Derived.Test.YtppndhbeglcioaaGAx25
import Derived.Lib.Walk
import Derived.Deep.DeepMust
namespace Go.Proofs.Ytppndhbeglcioaa.GA
open Go.RowKit Go.Proofs.YtppndhbeglcioaaW.PrintWords Go.Proofs.YtppndhbeglcioaaW.PrintLast Go.Proofs.YtppndhbeglcioaaW.PrintMore
set_option linter.unusedVariables false
set_option linter.unusedSimpArgs false
/-- The users of the groups of a name. -/
def usersOf (g : List S36) (n : ByteArray) : List ByteArray := (g.filter fun x => decide (x.f0.toList = n.toList)).flatMap fun x => x.f1
/-- A statement told for each of its groups' users. -/
def turn (g : List S36) (s : S34) : S34 := ⟨s.f0, s.f1, s.f2 ++ s.f3.flatMap (usersOf g), [], s.f4, s.f5⟩
theorem Ks.grown {g : Nat} {w0 W W1 : World} {row : Option Nat} (h : Ks g w0 W) (hg : W.grownBy W1 row) (hr : ∀ k, row = some k → w0.heap.size ≤ k) : Ks g w0 W1 :=
  ⟨hg.os.trans h.os, hg.tape.trans h.tape, hg.output.trans h.output, Nat.le_trans h.size hg.size, fun k hk hne => (hg.block k (Nat.lt_of_lt_of_le hk h.size) (fun e => by have := hr k e.symm; omega)).trans (h.block k hk hne)⟩
/-- The walk's world behind Made (world b): the boxes of the policy p and of the question a. -/
structure Gx (b : World) (gp ga : Nat) (cp ca : Array Value) (W : World) : Prop where
  hb : Below b.heap.size b W
  bp : W.heap[gp]? = some (.cells cp 28 (0, 0))
  ba : W.heap[ga]? = some (.cells ca 31 (0, 0))
  g0 : b.heap.size ≤ gp
  g1 : b.heap.size ≤ ga
section
variable {b W W' : World} {gp ga gt : Nat} {cp ca : Array Value}
theorem Gx.below (h : Gx b gp ga cp ca W) (hb : Below W.heap.size W W') : Gx b gp ga cp ca W' := ⟨below_step h.hb hb, blk_below h.bp hb, blk_below h.ba hb, h.g0, h.g1⟩
theorem Gx.set (h : Gx b gp ga cp ca W) (h1 : b.heap.size ≤ gt) (h2 : gt ≠ gp) (h3 : gt ≠ ga) (i : Nat) (u : Value) : Gx b gp ga cp ca (W.setCell ⟨gt, i, none⟩ u) :=
  ⟨below_set h.hb h1, blk_far h.bp (fun e => h2 e.symm) _, blk_far h.ba (fun e => h3 e.symm) _, h.g0, h.g1⟩
theorem Gx.ks {g : Nat} (h : Gx b gp ga cp ca W) (hk : Ks g W W') (h0 : b.heap.size ≤ g) (hg : g < W.heap.size) (h1 : g ≠ gp) (h2 : g ≠ ga) : Gx b gp ga cp ca W' :=
  ⟨hk.below h.hb h0 hg, (hk.block gp (blk_lt h.bp) (Ne.symm h1)).trans h.bp, (hk.block ga (blk_lt h.ba) (Ne.symm h2)).trans h.ba, h.g0, h.g1⟩
theorem Gx.cell (h : Gx b gp ga cp ca W) {p : Addr} {v : Value} (hv : b.cell? p = some v) : W.cell? p = some v := (h.hb.cell (World.block_lt_of_cell? b p hv)).trans hv
theorem Gx.fp (h : Gx b gp ga cp ca W) (i : Nat) : W.cell? ⟨gp, i, none⟩ = cp[i]? := blk_cell h.bp i
theorem Gx.fa (h : Gx b gp ga cp ca W) (i : Nat) : W.cell? ⟨ga, i, none⟩ = ca[i]? := blk_cell h.ba i
end
def gg.T15 : Bool × List (List Nat × List Nat) := (true, [([], []), ([0], [0]), ([], []), ([1, 2], [1, 2]), ([3], [3]), ([4], [4]), ([], []), ([6], [6]), ([], []), ([7, 8], [7, 8]), ([9], [9]), ([5, 10], [5, 10])])
def gg.B15 : List Nat := [0, 1, 0, 7, 15, 31, 0, 64, 0, 448, 960, 2047]
theorem gg.tab15 : rtab .any (opsOf Try.f3 15) = gg.T15 := by kernel_rfl
theorem gg.bits15 : waitsOk gg.T15.2 gg.B15 = true := by kernel_rfl
def gg.T16 : Bool × List (List Nat × List Nat) := (true, [([], []), ([0], [0]), ([], []), ([2], [2]), ([], []), ([3, 4], [3, 4]), ([5], [5]), ([6], [6]), ([1, 7], [1, 7]), ([0, 1, 2, 3, 4, 5, 6, 7, 8], []), ([9, 8, 8, 0, 1, 2, 3, 4, 5, 6, 7, 8], [8, 9])])
def gg.B16 : List Nat := [0, 1, 0, 4, 0, 28, 60, 124, 255, 511, 1023]
theorem gg.tab16 : rtab .any (opsOf Try.f3 16) = gg.T16 := by kernel_rfl
theorem gg.bits16 : waitsOk gg.T16.2 gg.B16 = true := by kernel_rfl
def gg.T20 : Bool × List (List Nat × List Nat) := (true, [([], []), ([], []), ([1], [1]), ([], []), ([3], [3]), ([], []), ([5], [5]), ([0, 2, 4, 6], [0, 2, 4, 6]), ([], []), ([], []), ([9], [9]), ([], []), ([11], [11]), ([], []), ([13], [13]), ([8, 10, 12, 14, 7], [8, 10, 12, 14]), ([7, 15], [7, 15]), ([16, 15], [16]), ([17], [17]), ([17], [17]), ([19, 17], [17, 19]), ([18, 20, 17, 17], [17, 18, 20]), ([17], [17]), ([21, 22, 17], [17, 21, 22]), ([17, 23], [17, 23]), ([24, 21], [24]), ([25], [25]), ([25], [25]), ([27, 25], [25, 27]), ([26, 28, 25, 25], [25, 26, 28]), ([25], [25]), ([30, 25], [25, 30]), ([31, 25], [25, 31]), ([29, 32, 25], [25, 29, 32]), ([25, 33], [25, 33]), ([34, 29], [34]), ([35], [35]), ([35], [35]), ([37, 35], [35, 37]), ([36, 38, 35, 35], [35, 36, 38]), ([39, 35], [35, 39]), ([35, 40], [35, 40]), ([41, 39], [41]), ([42, 42], [42]), ([42, 43], [42, 43]), ([44, 43, 0, 1, 2, 3, 4, 5, 6, 7, 8, 9, 10, 11, 12, 13, 14, 15, 16, 17, 18, 19, 20, 21, 22, 23, 24, 25, 26, 27, 28, 29, 30, 31, 32, 33, 34, 35, 36, 37, 38, 39, 40, 41, 42, 43, 44], [44])])
def gg.B20 : List Nat := [0, 0, 2, 0, 8, 0, 32, 127, 0, 0, 512, 0, 2048, 0, 8192, 32767, 65535, 131071, 262143, 262143, 786431, 2097151, 262143, 8388607, 16777215, 33554431, 67108863, 67108863, 201326591, 536870911, 67108863, 1140850687, 3288334335, 8589934591, 17179869183, 34359738367, 68719476735, 68719476735, 206158430207, 549755813887, 1099511627775, 2199023255551, 4398046511103, 8796093022207, 17592186044415, 35184372088831]
theorem gg.tab20 : rtab .any (opsOf Try.f3 20) = gg.T20 := by kernel_rfl
theorem gg.bits20 : waitsOk gg.T20.2 gg.B20 = true := by kernel_rfl
theorem V_open {α : Type} {d : Kd α} {e base : Nat} {W : World} {ok : Nat → Prop} {v : Value} {xs : List α} (h : Kd.V d e W base ok v xs) : ∃ A c, v = .slice A xs.length c ∧ xs.length ≤ c ∧ d.C W A xs.length xs := by
  obtain ⟨A, c, e, l, f⟩ := h
  exact ⟨A, c, e, l, Kd.F_now f⟩
set_option maxRecDepth 100000 in
set_option maxHeartbeats 2000000 in
theorem GlobGroups_walk (k : Nat) (A0 : Option Addr) (c0 : Nat) (l0 : List Int) (n : Int) (p0 p1 p2 : List ByteArray) (p3 : List S36) (p4 : List S34) (p5 : List S51) (ab : Bool) (u a o : ByteArray) (w : World)
    (hr0 : Kd.C (Kd.int .i64) w A0 l0.length l0) (hc0 : l0.length ≤ c0) (h8 : p4.length ≤ 8) (hs8 : ∀ s ∈ p4, s.f2.length ≤ 8 ∧ s.f3.length ≤ 8) (hg8 : p3.length ≤ 8 ∧ ∀ x ∈ p3, x.f1.length ≤ 8) (hM : entaillaw23_Made.f k l0 = some (p0, p1, p2, p3, p4, p5)) (hA : entaillaw24_Ask.f n = some (ab, u, a, o)) (m : Bool) (h1 : glob_May.f k p0 p1 p2 p3 p4 p5 u a o = some m) (h2 : glob_May.f k p0 p1 p2 p3 (p4.map (turn p3)) p5 u a o = some m) (hin : glob_In.f k p0 p1 p2 p3 p4 p5 u (⟨#[103]⟩ : ByteArray) = some (u.toList == [117] || u.toList == [118])) (hih : glob_In.f k p0 p1 p2 p3 p4 p5 u (⟨#[104]⟩ : ByteArray) = some (u.toList == [119])) (hik : glob_In.f k p0 p1 p2 p3 p4 p5 u (⟨#[107]⟩ : ByteArray) = some false) (haw : entaillaw24_awake.f k = some true) :
    Calls Try.prog 3 #[.slice A0 l0.length c0, .int .i64 n] w fun e w' => e = .returned (.bool true) ∧ Below w.heap.size w w' := by
  have hu28 := Try.underlying28
  have hu31 := Try.underlying31
  have hu36 := Try.underlying36
  have hu51 := Try.underlying51
  have hu34 := Try.underlying34
  have HM := Aside0.mk (entaillaw23_Made.callsV k A0 c0 l0 p0 p1 p2 p3 p4 p5 w hr0 hc0 hM)
  have HA := Aside0.mk (fun W => entaillaw24_Ask.calls n ab u a o W hA)
  have HM1 := Aside0.mk h1
  have HM2 := Aside0.mk h2
  have HIN := Aside0.mk hin
  have HIH := Aside0.mk hih
  have HIK := Aside0.mk hik
  have HAW := Aside0.mk haw
  clear hr0 hM hA h1 h2 hin hih hik haw
  go_enter Try.func3, Try.ntmps3
  go_upto_region 1 with (fail)
  go_upto_region 2 with (first | (go_at_call 7; go_loud (with_reducible refine HM.out.mono ?_; rintro e w1 ⟨v0, v1, v2, v3, v4, v5, rfl, h0, h1, h2, h3, h4, h5, hb⟩; obtain ⟨P0, e0, rfl, m0, g0⟩ := V_open h0; obtain ⟨P1, e1, rfl, m1, g1⟩ := V_open h1; obtain ⟨P2, e2, rfl, m2, g2⟩ := V_open h2; obtain ⟨P3, e3, rfl, m3, g3⟩ := V_open h3; obtain ⟨P4, e4, rfl, m4, g4⟩ := V_open h4; obtain ⟨P5, e5, rfl, m5, g5⟩ := V_open h5; have HB1 := Aside0.mk hb; have G0 := Aside0.mk g0; have G1 := Aside0.mk g1; have G2 := Aside0.mk g2; have G3 := Aside0.mk g3; have G4 := Aside0.mk g4; have G5 := Aside0.mk g5; clear hb g0 g1 g2 g3 g4 g5)) | (go_at_call 8; with_reducible refine (HA.out _).mono ?_; rintro e w2 ⟨rfl, hb⟩; have HB2 := Aside0.mk (below_step HB1.out hb); have K0 := Aside0.mk (Kd.C_below G0.out hb); have K1 := Aside0.mk (Kd.C_below G1.out hb); have K2 := Aside0.mk (Kd.C_below G2.out hb); have K3 := Aside0.mk (Kd.C_below G3.out hb); have K4 := Aside0.mk (Kd.C_below G4.out hb); have K5 := Aside0.mk (Kd.C_below G5.out hb); clear hb G0 G1 G2 G3 G4 G5 HB1) | ((with_reducible refine gate_dst (N := 5) rfl ?_); (try (refine gate_guard (by rfl) ?_; dsimp only)); refine box_event ?hg (N := 5) ?hd (cs := #[.slice none 0 0, .slice none 0 0, .slice none 0 0, .slice none 0 0, .slice none 0 0, .slice none 0 0]) (t := 28) ?hr ?_; (case hd => rfl); (case hg => rfl); (case hr => first | (go_simp; done) | (go_simp; rfl)); intro gp hg w3 hbox hb; have BP := Aside0.mk hbox; have HB3 := Aside0.mk hb; have GP := Aside0.mk ((by rw [hg]; exact Nat.le_refl _) : w2.heap.size ≤ gp); clear hg hbox hb) | ((with_reducible refine gate_dst (N := 6) rfl ?_); (try (refine gate_guard (by rfl) ?_; dsimp only)); refine box_event ?hg (N := 6) ?hd (cs := #[.bool false, .string (⟨#[]⟩ : ByteArray), .string (⟨#[]⟩ : ByteArray), .string (⟨#[]⟩ : ByteArray)]) (t := 31) ?hr ?_; (case hd => rfl); (case hg => rfl); (case hr => first | (go_simp; done) | (go_simp; rfl)); intro ga hg w4 hbox hb; have BA := Aside0.mk hbox; have HB4 := Aside0.mk (below_step HB3.out hb); have BP4 := Aside0.mk (blk_below BP.out hb); have GA := Aside0.mk ((by rw [hg]; exact below_size HB3.out) : w2.heap.size ≤ ga); have NE := Aside0.mk ((by rw [hg]; exact Nat.ne_of_lt (blk_lt BP.out)) : gp ≠ ga); clear hg hbox hb BP HB3; have hne := NE.out; have hne' := Ne.symm NE.out; have hcp0 : w4.cell? ⟨gp, 0, none⟩ = some (.slice none 0 0) := (blk_cell BP4.out 0).trans rfl; have hfp0 := blk_frozen BP4.out 0; have hcp1 : w4.cell? ⟨gp, 1, none⟩ = some (.slice none 0 0) := (blk_cell BP4.out 1).trans rfl; have hfp1 := blk_frozen BP4.out 1; have hcp2 : w4.cell? ⟨gp, 2, none⟩ = some (.slice none 0 0) := (blk_cell BP4.out 2).trans rfl; have hfp2 := blk_frozen BP4.out 2; have hcp3 : w4.cell? ⟨gp, 3, none⟩ = some (.slice none 0 0) := (blk_cell BP4.out 3).trans rfl; have hfp3 := blk_frozen BP4.out 3; have hcp4 : w4.cell? ⟨gp, 4, none⟩ = some (.slice none 0 0) := (blk_cell BP4.out 4).trans rfl; have hfp4 := blk_frozen BP4.out 4; have hcp5 : w4.cell? ⟨gp, 5, none⟩ = some (.slice none 0 0) := (blk_cell BP4.out 5).trans rfl; have hfp5 := blk_frozen BP4.out 5; have hca0 : w4.cell? ⟨ga, 0, none⟩ = some (.bool false) := (blk_cell BA.out 0).trans rfl; have hfa0 := blk_frozen BA.out 0; have hca1 : w4.cell? ⟨ga, 1, none⟩ = some (.string (⟨#[]⟩ : ByteArray)) := (blk_cell BA.out 1).trans rfl; have hfa1 := blk_frozen BA.out 1; have hca2 : w4.cell? ⟨ga, 2, none⟩ = some (.string (⟨#[]⟩ : ByteArray)) := (blk_cell BA.out 2).trans rfl; have hfa2 := blk_frozen BA.out 2; have hca3 : w4.cell? ⟨ga, 3, none⟩ = some (.string (⟨#[]⟩ : ByteArray)) := (blk_cell BA.out 3).trans rfl; have hfa3 := blk_frozen BA.out 3))
  have G := Aside0.mk (show Gx w2 gp ga #[.slice P0 p0.length e0, .slice P1 p1.length e1, .slice P2 p2.length e2, .slice P3 p3.length e3, .slice P4 p4.length e4, .slice P5 p5.length e5] #[.bool ab, .string u, .string a, .string o] ((((((((((w4.setCell ⟨gp, 0, none⟩ (.slice P0 p0.length e0)).setCell ⟨gp, 1, none⟩ (.slice P1 p1.length e1)).setCell ⟨gp, 2, none⟩ (.slice P2 p2.length e2)).setCell ⟨gp, 3, none⟩ (.slice P3 p3.length e3)).setCell ⟨gp, 4, none⟩ (.slice P4 p4.length e4)).setCell ⟨gp, 5, none⟩ (.slice P5 p5.length e5)).setCell ⟨ga, 0, none⟩ (.bool ab)).setCell ⟨ga, 1, none⟩ (.string u)).setCell ⟨ga, 2, none⟩ (.string a)).setCell ⟨ga, 3, none⟩ (.string o)) from ⟨below_set (below_set (below_set (below_set (below_set (below_set (below_set (below_set (below_set (below_set HB4.out GP.out) GP.out) GP.out) GP.out) GP.out) GP.out) GA.out) GA.out) GA.out) GA.out, blk_far (blk_far (blk_far (blk_far (blk_put (blk_put (blk_put (blk_put (blk_put (blk_put (BP4.out) 0 _ rfl) 1 _ rfl) 2 _ rfl) 3 _ rfl) 4 _ rfl) 5 _ rfl) hne _) hne _) hne _) hne _, blk_put (blk_put (blk_put (blk_put (blk_far (blk_far (blk_far (blk_far (blk_far (blk_far (BA.out) hne' _) hne' _) hne' _) hne' _) hne' _) hne' _) 0 _ rfl) 1 _ rfl) 2 _ rfl) 3 _ rfl, GP.out, GA.out⟩)
  generalize ((((((((((w4.setCell ⟨gp, 0, none⟩ (.slice P0 p0.length e0)).setCell ⟨gp, 1, none⟩ (.slice P1 p1.length e1)).setCell ⟨gp, 2, none⟩ (.slice P2 p2.length e2)).setCell ⟨gp, 3, none⟩ (.slice P3 p3.length e3)).setCell ⟨gp, 4, none⟩ (.slice P4 p4.length e4)).setCell ⟨gp, 5, none⟩ (.slice P5 p5.length e5)).setCell ⟨ga, 0, none⟩ (.bool ab)).setCell ⟨ga, 1, none⟩ (.string u)).setCell ⟨ga, 2, none⟩ (.string a)).setCell ⟨ga, 3, none⟩ (.string o)) = w5 at G ⊢
  clear hcp0 hcp1 hcp2 hcp3 hcp4 hcp5 hfp0 hfp1 hfp2 hfp3 hfp4 hfp5 hca0 hca1 hca2 hca3 hfa0 hfa1 hfa2 hfa3 BP4 BA HB4
  have b0 : w5.cell? ⟨gp, 0, none⟩ = some (.slice P0 p0.length e0) := (G.out.fp 0).trans rfl
  have b1 : w5.cell? ⟨gp, 1, none⟩ = some (.slice P1 p1.length e1) := (G.out.fp 1).trans rfl
  have b2 : w5.cell? ⟨gp, 2, none⟩ = some (.slice P2 p2.length e2) := (G.out.fp 2).trans rfl
  have b3 : w5.cell? ⟨gp, 3, none⟩ = some (.slice P3 p3.length e3) := (G.out.fp 3).trans rfl
  have b4 : w5.cell? ⟨gp, 4, none⟩ = some (.slice P4 p4.length e4) := (G.out.fp 4).trans rfl
  have b5 : w5.cell? ⟨gp, 5, none⟩ = some (.slice P5 p5.length e5) := (G.out.fp 5).trans rfl
  go_upto_region 3 with (first | ((with_reducible refine gate_dst (N := 7) rfl ?_); (try (refine gate_guard (by rfl) ?_; dsimp only)); refine box_event ?hg (N := 7) ?hd (cs := #[.slice none 0 0, .slice none 0 0, .slice none 0 0, .slice none 0 0, .slice none 0 0, .slice none 0 0]) (t := 28) ?hr ?_; (case hd => rfl); (case hg => rfl); (case hr => first | (go_simp; done) | (go_simp; rfl)); intro gq hg w6 hbox hb; have BQ := Aside0.mk hbox; have G6 := Aside0.mk (G.out.below hb); have HQ := Aside0.mk ((by rw [hg]; exact below_size G.out.hb) : w2.heap.size ≤ gq); have NQ := Aside0.mk ((by rw [hg]; exact Nat.ne_of_gt (blk_lt G.out.bp)) : gq ≠ gp); have NA := Aside0.mk ((by rw [hg]; exact Nat.ne_of_gt (blk_lt G.out.ba)) : gq ≠ ga); clear hg hbox hb; have hcq0 : w6.cell? ⟨gq, 0, none⟩ = some (.slice none 0 0) := (blk_cell BQ.out 0).trans rfl; have hfq0 := blk_frozen BQ.out 0; have hcq1 : w6.cell? ⟨gq, 1, none⟩ = some (.slice none 0 0) := (blk_cell BQ.out 1).trans rfl; have hfq1 := blk_frozen BQ.out 1; have hcq2 : w6.cell? ⟨gq, 2, none⟩ = some (.slice none 0 0) := (blk_cell BQ.out 2).trans rfl; have hfq2 := blk_frozen BQ.out 2; have hcq3 : w6.cell? ⟨gq, 3, none⟩ = some (.slice none 0 0) := (blk_cell BQ.out 3).trans rfl; have hfq3 := blk_frozen BQ.out 3; have hcq4 : w6.cell? ⟨gq, 4, none⟩ = some (.slice none 0 0) := (blk_cell BQ.out 4).trans rfl; have hfq4 := blk_frozen BQ.out 4; have hcq5 : w6.cell? ⟨gq, 5, none⟩ = some (.slice none 0 0) := (blk_cell BQ.out 5).trans rfl; have hfq5 := blk_frozen BQ.out 5))
  have G7 := Aside0.mk (show Gx w2 gp ga #[.slice P0 p0.length e0, .slice P1 p1.length e1, .slice P2 p2.length e2, .slice P3 p3.length e3, .slice P4 p4.length e4, .slice P5 p5.length e5] #[.bool ab, .string u, .string a, .string o] ((((((w6.setCell ⟨gq, 0, none⟩ (.slice P0 p0.length e0)).setCell ⟨gq, 1, none⟩ (.slice P1 p1.length e1)).setCell ⟨gq, 2, none⟩ (.slice P2 p2.length e2)).setCell ⟨gq, 3, none⟩ (.slice P3 p3.length e3)).setCell ⟨gq, 4, none⟩ (.slice P4 p4.length e4)).setCell ⟨gq, 5, none⟩ (.slice P5 p5.length e5)) from ((((((G6.out).set HQ.out NQ.out NA.out 0 _).set HQ.out NQ.out NA.out 1 _).set HQ.out NQ.out NA.out 2 _).set HQ.out NQ.out NA.out 3 _).set HQ.out NQ.out NA.out 4 _).set HQ.out NQ.out NA.out 5 _)
  have Q7 := Aside0.mk (show (((((((w6.setCell ⟨gq, 0, none⟩ (.slice P0 p0.length e0)).setCell ⟨gq, 1, none⟩ (.slice P1 p1.length e1)).setCell ⟨gq, 2, none⟩ (.slice P2 p2.length e2)).setCell ⟨gq, 3, none⟩ (.slice P3 p3.length e3)).setCell ⟨gq, 4, none⟩ (.slice P4 p4.length e4)).setCell ⟨gq, 5, none⟩ (.slice P5 p5.length e5))).heap[gq]? = some (.cells #[.slice P0 p0.length e0, .slice P1 p1.length e1, .slice P2 p2.length e2, .slice P3 p3.length e3, .slice P4 p4.length e4, .slice P5 p5.length e5] 28 (0, 0)) from blk_put (blk_put (blk_put (blk_put (blk_put (blk_put (BQ.out) 0 _ rfl) 1 _ rfl) 2 _ rfl) 3 _ rfl) 4 _ rfl) 5 _ rfl)
  generalize ((((((w6.setCell ⟨gq, 0, none⟩ (.slice P0 p0.length e0)).setCell ⟨gq, 1, none⟩ (.slice P1 p1.length e1)).setCell ⟨gq, 2, none⟩ (.slice P2 p2.length e2)).setCell ⟨gq, 3, none⟩ (.slice P3 p3.length e3)).setCell ⟨gq, 4, none⟩ (.slice P4 p4.length e4)).setCell ⟨gq, 5, none⟩ (.slice P5 p5.length e5)) = w7 at G7 Q7 ⊢
  clear b0 b1 b2 b3 b4 b5 hcq0 hcq1 hcq2 hcq3 hcq4 hcq5 hfq0 hfq1 hfq2 hfq3 hfq4 hfq5 G6 BQ
  have hs4 : w7.cell? ⟨gq, 4, none⟩ = some (.slice P4 p4.length e4) := (blk_cell Q7.out 4).trans rfl
  have hf4 := blk_frozen Q7.out 4
  go_upto_region 4 with (fail)
  have G8 := Aside0.mk (G7.out.set HQ.out NQ.out NA.out 4 (.slice none 0 0))
  have Q8 := Aside0.mk (blk_put Q7.out 4 (.slice none 0 0) rfl)
  generalize w7.setCell ⟨gq, 4, none⟩ (.slice none 0 0) = w8 at G8 Q8 ⊢
  clear hs4 hf4 G7 Q7
  go_wp2
  go_loopg [8] p4.length (fun gg s8 wr => ∃ (kk : Nat) (vq : Value), kk ≤ p4.length ∧ p4.length - kk ≤ gg ∧ s8 = .int .i64 kk ∧ Aside0 (Gx w2 gp ga #[.slice P0 p0.length e0, .slice P1 p1.length e1, .slice P2 p2.length e2, .slice P3 p3.length e3, .slice P4 p4.length e4, .slice P5 p5.length e5] #[.bool ab, .string u, .string a, .string o] wr) ∧ Aside0 (wr.heap[gq]? = some (.cells #[.slice P0 p0.length e0, .slice P1 p1.length e1, .slice P2 p2.length e2, .slice P3 p3.length e3, vq, .slice P5 p5.length e5] 28 (0, 0))) ∧ Aside0 (Kd.N k34 34 wr w2.heap.size (fun k => k ≠ gp ∧ k ≠ ga ∧ k ≠ gq) vq ((p4.take kk).map (turn p3))))
  case atStart => exact ⟨0, .slice none 0 0, Nat.zero_le _, by omega, rfl, G8, ⟨Q8.out.trans rfl⟩, ⟨Kd.N_nil _ _ _ _ _⟩⟩
  case round =>
    clear G8 Q8
    obtain ⟨kk, vq, hkk, hgk, rfl, GR, QR, NR⟩ := hrel
    have f4 : wr.cell? ⟨gp, 4, none⟩ = some (.slice P4 p4.length e4) := (GR.out.fp 4).trans rfl
    by_cases hlt : kk < p4.length
    · have hltz : (kk : Int) < (p4.length : Int) := by omega
      have p101 : (0 ≤ (kk : Int)) = True := eq_true (by omega)
      have q101 : ((kk : Int) < (p4.length : Int)) = True := eq_true hltz
      obtain ⟨ad, A6, c6, A7, c7, A8, c8, A9, c9, rfl, hx0, hx1, hx2, hx3, hx4, hx5, hl2, hi2, hl3, hi3, hl4, hi4, hl5, hi5⟩ := at_T34 K4.out (kk : Int) (by omega) hltz
      have hy : rd_T34 p4 (kk : Int) = p4[kk] := by
        unfold rd_T34
        rw [Int.toNat_natCast, List.getD_eq_getElem?_getD, List.getElem?_eq_getElem hlt]; rfl
      rw [hy] at hx0 hx1 hx2 hx3 hx4 hx5 hl2 hi2 hl3 hi3 hl4 hi4 hl5 hi5
      rw [Int.toNat_natCast] at hx0 hx1 hx2 hx3 hx4 hx5
      obtain ⟨x, hxx⟩ : ∃ x, x = p4[kk] := ⟨_, rfl⟩
      rw [← hxx] at hx0 hx1 hx2 hx3 hx4 hx5 hl2 hi2 hl3 hi3 hl4 hi4 hl5 hi5
      have HX := Aside0.mk hxx
      have I2 := Aside0.mk (And.intro hl2 hi2)
      have I3 := Aside0.mk (And.intro hl3 hi3)
      have I4 := Aside0.mk (And.intro hl4 hi4)
      have I5 := Aside0.mk (And.intro hl5 hi5)
      clear hi2 hi3 hi4 hi5 hl2 hl3 hl4 hl5 hy hxx
      go_upto_region 7 with (fail)
      have y0 := GR.out.cell hx0
      have y1 := GR.out.cell hx1
      have y2 := GR.out.cell hx2
      have y3 := GR.out.cell hx3
      have y4 := GR.out.cell hx4
      have y5 := GR.out.cell hx5
      clear hx0 hx1 hx2 hx3 hx4 hx5
      go_upto_region 8 with (first | ((with_reducible refine gate_dst (N := 9) rfl ?_); (try (refine gate_guard (by rfl) ?_; dsimp only)); refine box_event ?hg (N := 9) ?hd (cs := #[.string (⟨#[]⟩ : ByteArray), .bool false, .slice none 0 0, .slice none 0 0, .slice none 0 0, .slice none 0 0]) (t := 34) ?hr ?_; (case hd => rfl); (case hg => rfl); (case hr => first | (go_simp; done) | (go_simp; rfl)); intro gs hg w9 hbox hb; have BS := Aside0.mk hbox; have G9 := Aside0.mk (GR.out.below hb); have Q9 := Aside0.mk (blk_below QR.out hb); have N9 := Aside0.mk (Kd.N_below (Kd.N_bound NR.out) hb); have GSE := Aside0.mk hg; have HS := Aside0.mk ((by rw [hg]; exact below_size GR.out.hb) : w2.heap.size ≤ gs); have NSP := Aside0.mk ((by rw [hg]; exact Nat.ne_of_gt (blk_lt GR.out.bp)) : gs ≠ gp); have NSA := Aside0.mk ((by rw [hg]; exact Nat.ne_of_gt (blk_lt GR.out.ba)) : gs ≠ ga); have NSQ := Aside0.mk ((by rw [hg]; exact Nat.ne_of_gt (blk_lt QR.out)) : gs ≠ gq); clear hg hbox hb; have hcs0 : w9.cell? ⟨gs, 0, none⟩ = some (.string (⟨#[]⟩ : ByteArray)) := (blk_cell BS.out 0).trans rfl; have hfs0 := blk_frozen BS.out 0; have hcs1 : w9.cell? ⟨gs, 1, none⟩ = some (.bool false) := (blk_cell BS.out 1).trans rfl; have hfs1 := blk_frozen BS.out 1; have hcs2 : w9.cell? ⟨gs, 2, none⟩ = some (.slice none 0 0) := (blk_cell BS.out 2).trans rfl; have hfs2 := blk_frozen BS.out 2; have hcs3 : w9.cell? ⟨gs, 3, none⟩ = some (.slice none 0 0) := (blk_cell BS.out 3).trans rfl; have hfs3 := blk_frozen BS.out 3; have hcs4 : w9.cell? ⟨gs, 4, none⟩ = some (.slice none 0 0) := (blk_cell BS.out 4).trans rfl; have hfs4 := blk_frozen BS.out 4; have hcs5 : w9.cell? ⟨gs, 5, none⟩ = some (.slice none 0 0) := (blk_cell BS.out 5).trans rfl; have hfs5 := blk_frozen BS.out 5))
      have G10 := Aside0.mk (show Gx w2 gp ga #[.slice P0 p0.length e0, .slice P1 p1.length e1, .slice P2 p2.length e2, .slice P3 p3.length e3, .slice (some ad) p4.length e4, .slice P5 p5.length e5] #[.bool ab, .string u, .string a, .string o] ((((((w9.setCell ⟨gs, 0, none⟩ (.string x.f0)).setCell ⟨gs, 1, none⟩ (.bool x.f1)).setCell ⟨gs, 2, none⟩ (.slice A6 x.f2.length c6)).setCell ⟨gs, 3, none⟩ (.slice A7 x.f3.length c7)).setCell ⟨gs, 4, none⟩ (.slice A8 x.f4.length c8)).setCell ⟨gs, 5, none⟩ (.slice A9 x.f5.length c9)) from ((((((G9.out).set HS.out NSP.out NSA.out 0 _).set HS.out NSP.out NSA.out 1 _).set HS.out NSP.out NSA.out 2 _).set HS.out NSP.out NSA.out 3 _).set HS.out NSP.out NSA.out 4 _).set HS.out NSP.out NSA.out 5 _)
      have S10 := Aside0.mk (show (((((((w9.setCell ⟨gs, 0, none⟩ (.string x.f0)).setCell ⟨gs, 1, none⟩ (.bool x.f1)).setCell ⟨gs, 2, none⟩ (.slice A6 x.f2.length c6)).setCell ⟨gs, 3, none⟩ (.slice A7 x.f3.length c7)).setCell ⟨gs, 4, none⟩ (.slice A8 x.f4.length c8)).setCell ⟨gs, 5, none⟩ (.slice A9 x.f5.length c9))).heap[gs]? = some (.cells #[.string x.f0, .bool x.f1, .slice A6 x.f2.length c6, .slice A7 x.f3.length c7, .slice A8 x.f4.length c8, .slice A9 x.f5.length c9] 34 (0, 0)) from blk_put (blk_put (blk_put (blk_put (blk_put (blk_put (BS.out) 0 _ rfl) 1 _ rfl) 2 _ rfl) 3 _ rfl) 4 _ rfl) 5 _ rfl)
      have Q10 := Aside0.mk (show (((((((w9.setCell ⟨gs, 0, none⟩ (.string x.f0)).setCell ⟨gs, 1, none⟩ (.bool x.f1)).setCell ⟨gs, 2, none⟩ (.slice A6 x.f2.length c6)).setCell ⟨gs, 3, none⟩ (.slice A7 x.f3.length c7)).setCell ⟨gs, 4, none⟩ (.slice A8 x.f4.length c8)).setCell ⟨gs, 5, none⟩ (.slice A9 x.f5.length c9))).heap[gq]? = _ from blk_far (blk_far (blk_far (blk_far (blk_far (blk_far (Q9.out) (Ne.symm NSQ.out) _) (Ne.symm NSQ.out) _) (Ne.symm NSQ.out) _) (Ne.symm NSQ.out) _) (Ne.symm NSQ.out) _) (Ne.symm NSQ.out) _)
      have N10 := Aside0.mk (show Kd.N k34 34 ((((((w9.setCell ⟨gs, 0, none⟩ (.string x.f0)).setCell ⟨gs, 1, none⟩ (.bool x.f1)).setCell ⟨gs, 2, none⟩ (.slice A6 x.f2.length c6)).setCell ⟨gs, 3, none⟩ (.slice A7 x.f3.length c7)).setCell ⟨gs, 4, none⟩ (.slice A8 x.f4.length c8)).setCell ⟨gs, 5, none⟩ (.slice A9 x.f5.length c9)) _ _ _ _ from Kd.N_far (p := ⟨gs, 5, none⟩) (Kd.N_far (p := ⟨gs, 4, none⟩) (Kd.N_far (p := ⟨gs, 3, none⟩) (Kd.N_far (p := ⟨gs, 2, none⟩) (Kd.N_far (p := ⟨gs, 1, none⟩) (Kd.N_far (p := ⟨gs, 0, none⟩) (N9.out) (fun k hk => by show k ≠ gs; have := hk.2; have := GSE.out; omega) _) (fun k hk => by show k ≠ gs; have := hk.2; have := GSE.out; omega) _) (fun k hk => by show k ≠ gs; have := hk.2; have := GSE.out; omega) _) (fun k hk => by show k ≠ gs; have := hk.2; have := GSE.out; omega) _) (fun k hk => by show k ≠ gs; have := hk.2; have := GSE.out; omega) _) (fun k hk => by show k ≠ gs; have := hk.2; have := GSE.out; omega) _)
      generalize ((((((w9.setCell ⟨gs, 0, none⟩ (.string x.f0)).setCell ⟨gs, 1, none⟩ (.bool x.f1)).setCell ⟨gs, 2, none⟩ (.slice A6 x.f2.length c6)).setCell ⟨gs, 3, none⟩ (.slice A7 x.f3.length c7)).setCell ⟨gs, 4, none⟩ (.slice A8 x.f4.length c8)).setCell ⟨gs, 5, none⟩ (.slice A9 x.f5.length c9)) = w10 at G10 S10 Q10 N10 ⊢
      clear hcs0 hcs1 hcs2 hcs3 hcs4 hcs5 hfs0 hfs1 hfs2 hfs3 hfs4 hfs5 y0 y1 y2 y3 y4 y5 f4 BS
      have z2 : w10.cell? ⟨gs, 2, none⟩ = some (.slice A6 x.f2.length c6) := (blk_cell S10.out 2).trans rfl
      have zf2 := blk_frozen S10.out 2
      have hx8 : x.f2.length ≤ 8 ∧ x.f3.length ≤ 8 := hs8 x (by rw [HX.out]; exact List.getElem_mem _)
      go_upto_region 9 with (first | ((with_reducible refine gate_dst (N := 31) rfl ?_); (try (refine gate_guard (by rfl) ?_; dsimp only)); refine Kd.R_lit Kd.string _ 9 ?hg (N := 31) ?hd (xs := ([] : List ByteArray)) (inner := []) (ok := fun k => w10.heap.size ≤ k) (okp := fun k => w10.heap.size ≤ k) ?hr ?hp (fun _ hk => hk) (Nat.le_refl _) (Below.refl _ _) (Nat.le_refl _) (by simp) ?_; (case hd => rfl); (case hg => rfl); (case hr => first | (go_simp; done) | (go_simp; rfl)); (case hp => exact (Reps.none _ _)); intro v11 w11 ho hb hg_ hn_; have O11 := Aside0.mk ho; have B11 := Aside0.mk hb; have z11 : w11.cell? ⟨gs, 2, none⟩ = some (.slice A6 x.f2.length c6) := (blk_cell (blk_below S10.out hb) 2).trans rfl; clear ho hb hg_ hn_) | ((with_reducible refine gate_builtin (b := .append) (xs := #[.tmp 31, .tmp 33]) rfl ?_); (try (refine gate_guard (by rfl) ?_; dsimp only)); at_builtin; refine Kd.R_append_rows Kd.string (w0 := w10) w10.heap.size rfl (.tmp 31) (.tmp 33) 23 9 (.string ⟨#[]⟩) 16 rfl Try.underlying23 info9 rfl (by decide) (by omega) v11 [] x.f2 _ _ _ (fun k => w10.heap.size ≤ k) (fun _ => False) rfl rfl ?aO ?aR (fun _ _ h => h) (fun _ h => h.elim) ?aF ?aB ?aS ?aL ?_; (case aR => exact Kd.C_below (Kd.C_below I2.out.2 G10.out.hb) B11.out); (case aB => exact B11.out); (case aF => exact fun k hk => Nat.le_trans B11.out.size hk); (case aO => exact O11.out); (case aS => exact B11.out.size); (case aL => simp only [List.length_nil]; omega); intro v12 w12 ho hb hg hat; rw [List.nil_append] at ho; obtain ⟨A12, c12, rfl⟩ := Kd.R_slice ho; have O12 := Aside0.mk ho; have B12 := Aside0.mk hb; have z2' : w12.cell? ⟨gs, 2, none⟩ = some (.slice A6 x.f2.length c6) := (blk_cell (blk_below S10.out hb) 2).trans rfl; have zf2' := blk_frozen (blk_below S10.out hb) 2; clear ho hb hg hat O11 B11))
      have R13 := Aside0.mk (show Kd.R Kd.string 9 (w12.setCell ⟨gs, 2, none⟩ (.slice A12 x.f2.length c12)) w10.heap.size (fun k => w10.heap.size ≤ k) (.slice A12 x.f2.length c12) x.f2 from Kd.R_far (p := ⟨gs, 2, none⟩) O12.out (fun k hk => by show k ≠ gs; have := blk_lt S10.out; omega) _)
      have K13 := Aside0.mk (show Ks gs w10 (w12.setCell ⟨gs, 2, none⟩ (.slice A12 x.f2.length c12)) from Ks.trans ⟨B12.out.os, B12.out.tape, B12.out.output, B12.out.size, fun k hk _ => B12.out.block k hk⟩ ⟨rfl, rfl, rfl, by simp [World.setCell], fun k _ hk => Below.heap_setCell w12 ⟨gs, 2, none⟩ (.slice A12 x.f2.length c12) k hk⟩)
      have S13 := Aside0.mk (show (w12.setCell ⟨gs, 2, none⟩ (.slice A12 x.f2.length c12)).heap[gs]? = some (.cells #[.string x.f0, .bool x.f1, (.slice A12 x.f2.length c12), .slice A7 x.f3.length c7, .slice A8 x.f4.length c8, .slice A9 x.f5.length c9] 34 (0, 0)) from blk_put (blk_below S10.out B12.out) 2 _ rfl)
      generalize w12.setCell ⟨gs, 2, none⟩ (.slice A12 x.f2.length c12) = w13 at R13 K13 S13 ⊢
      clear O12 B12 z2 zf2
      go_wp2
      go_loopg [10] x.f3.length (fun g2 s10 wr => ∃ (jj : Nat) (Au : Option Addr) (cu : Nat) (us : List ByteArray), jj ≤ x.f3.length ∧ x.f3.length - jj ≤ g2 ∧ s10 = .int .i64 jj ∧ us = x.f2 ++ (x.f3.take jj).flatMap (usersOf p3) ∧ us.length ≤ 8 + jj * 64 ∧ Aside0 (Ks gs w10 wr) ∧ Aside0 (wr.heap[gs]? = some (.cells #[.string x.f0, .bool x.f1, .slice Au us.length cu, .slice A7 x.f3.length c7, .slice A8 x.f4.length c8, .slice A9 x.f5.length c9] 34 (0, 0))) ∧ Aside0 (Kd.R Kd.string 9 wr w10.heap.size (fun k => w10.heap.size ≤ k) (.slice Au us.length cu) us))
      case atStart => exact ⟨0, A12, c12, x.f2, Nat.zero_le _, by omega, rfl, by simp, by omega, K13, S13, R13⟩
      case round =>
        clear R13 K13 S13
        obtain ⟨jj, Au, cu, us, hjj, hgj, rfl, hus, hul, KR, SR, RR⟩ := hrel
        have HU := Aside0.mk hus
        clear hus
        have s3 : wr.cell? ⟨gs, 3, none⟩ = some (.slice A7 x.f3.length c7) := (blk_cell SR.out 3).trans rfl
        by_cases hlj : jj < x.f3.length
        · have hljz : (jj : Int) < (x.f3.length : Int) := by omega
          go_upto_region 12 with (fail)
          obtain ⟨ad7, e7, hn⟩ := Kd.at_string I3.out.2 (jj : Int) (by omega) hljz
          subst e7
          rw [Int.toNat_natCast] at hn
          have hny : rdOf ByteArray.empty x.f3 (jj : Int) = x.f3[jj] := by
            unfold rdOf
            rw [Int.toNat_natCast, List.getD_eq_getElem?_getD, List.getElem?_eq_getElem hlj]; rfl
          rw [hny] at hn
          have Hn := Aside0.mk hn
          clear hn hny s3
          go_wp2
          go_loopg [11] p3.length (fun g3 s11 wr => ∃ (nn : Nat) (Av : Option Addr) (cv : Nat) (vs : List ByteArray), nn ≤ p3.length ∧ p3.length - nn ≤ g3 ∧ s11 = .int .i64 nn ∧ vs = us ++ usersOf (p3.take nn) x.f3[jj] ∧ vs.length ≤ us.length + nn * 8 ∧ Aside0 (Ks gs w10 wr) ∧ Aside0 (wr.heap[gs]? = some (.cells #[.string x.f0, .bool x.f1, .slice Av vs.length cv, .slice (some ad7) x.f3.length c7, .slice A8 x.f4.length c8, .slice A9 x.f5.length c9] 34 (0, 0))) ∧ Aside0 (Kd.R Kd.string 9 wr w10.heap.size (fun k => w10.heap.size ≤ k) (.slice Av vs.length cv) vs))
          case atStart => exact ⟨0, Au, cu, us, Nat.zero_le _, by omega, rfl, by simp [usersOf], by omega, KR, SR, RR⟩
          case round =>
            clear KR SR RR
            obtain ⟨nn, Av, cv, vs, hnn, hgn, rfl, hvs, hvl, KR, SR, RR⟩ := hrel
            have HV := Aside0.mk hvs
            clear hvs
            have GR := Aside0.mk (G10.out.ks KR.out HS.out (blk_lt S10.out) NSP.out NSA.out)
            have f3 : wr.cell? ⟨gp, 3, none⟩ = some (.slice P3 p3.length e3) := (GR.out.fp 3).trans rfl
            have s3 : wr.cell? ⟨gs, 3, none⟩ = some (.slice (some ad7) x.f3.length c7) := (blk_cell SR.out 3).trans rfl
            by_cases hln : nn < p3.length
            · have hlnz : (nn : Int) < (p3.length : Int) := by omega
              have p201 : (0 ≤ (nn : Int)) = True := eq_true (by omega)
              have q201 : ((nn : Int) < (p3.length : Int)) = True := eq_true hlnz
              have p202 : (0 ≤ (jj : Int)) = True := eq_true (by omega)
              have q202 : ((jj : Int) < (x.f3.length : Int)) = True := eq_true hljz
              obtain ⟨ad3, A20, c20, rfl, hx0, hx1, hl1, hi1⟩ := at_T36 K3.out (nn : Int) (by omega) hlnz
              have hy : rd_T36 p3 (nn : Int) = p3[nn] := by
                unfold rd_T36
                rw [Int.toNat_natCast, List.getD_eq_getElem?_getD, List.getElem?_eq_getElem hln]; rfl
              rw [hy] at hx0 hx1 hl1 hi1
              rw [Int.toNat_natCast] at hx0 hx1
              obtain ⟨y, hyy⟩ : ∃ y, y = p3[nn] := ⟨_, rfl⟩
              rw [← hyy] at hx0 hx1 hl1 hi1
              have HY := Aside0.mk hyy
              have IY := Aside0.mk (And.intro hl1 hi1)
              clear hyy hl1 hi1 hy
              go_upto_region 15 with (fail)
              refine start_ (n := 12) (S := fun w' => w'.cell? ⟨gp, 3, none⟩ = some (.slice (some ad3) p3.length e3) ∧ w'.cell? (ad3.add (nn * 2)) = some (.string y.f0) ∧ w'.cell? ⟨gs, 3, none⟩ = some (.slice (some ad7) x.f3.length c7) ∧ w'.cell? (ad7.add jj) = some (.string x.f3[jj])) (ds := []) #[false, false, false, false, false, false, false, false, false, false, false, false] (by kernel_rfl) rfl rfl ⟨f3, GR.out.cell hx0, s3, GR.out.cell Hn.out⟩ (fun hHeld => ?_); refine with_tabW gg.tab15 gg.bits15 (fun HT_ HW_ => ?_)
              refine pure_ (i := 0) (N := some 50) (v := ?_) (a' := ?_) #[true, false, false, false, false, false, false, false, false, false, false, false] rfl rfl (any_of HT_.out (by kernel_rfl)) (fun _ _ _ h => h) (Or.inl ⟨by rfl, ?_⟩) ?_ ?_
              rotate_left
              · intro w'
                go_simp
                with_reducible rfl
              rotate_left
              · simp only [Act.put, List.setIfInBounds_toArray, List.set_cons_zero, List.set_cons_succ, i64_w, i32_w]
                rfl
              refine pure_ (i := 2) (N := some 52) (v := ?_) (a' := ?_) #[true, false, true, false, false, false, false, false, false, false, false, false] rfl rfl (any_of HT_.out (by kernel_rfl)) (fun _ _ _ h => h) (Or.inl ⟨by rfl, ?_⟩) ?_ ?_
              rotate_left
              · intro w'
                go_simp
                with_reducible rfl
              rotate_left
              · simp only [Act.put, List.setIfInBounds_toArray, List.set_cons_zero, List.set_cons_succ, i64_w, i32_w]
                rfl
              refine pure_ (i := 6) (N := some 56) (v := ?_) (a' := ?_) #[true, false, true, false, false, false, true, false, false, false, false, false] rfl rfl (any_of HT_.out (by kernel_rfl)) (fun _ _ _ h => h) (Or.inl ⟨by rfl, ?_⟩) ?_ ?_
              rotate_left
              · intro w'
                go_simp
                with_reducible rfl
              rotate_left
              · simp only [Act.put, List.setIfInBounds_toArray, List.set_cons_zero, List.set_cons_succ, i64_w, i32_w]
                rfl
              refine pure_ (i := 8) (N := some 58) (v := ?_) (a' := ?_) #[true, false, true, false, false, false, true, false, true, false, false, false] rfl rfl (any_of HT_.out (by kernel_rfl)) (fun _ _ _ h => h) (Or.inl ⟨by rfl, ?_⟩) ?_ ?_
              rotate_left
              · intro w'
                go_simp
                with_reducible rfl
              rotate_left
              · simp only [Act.put, List.setIfInBounds_toArray, List.set_cons_zero, List.set_cons_succ, i64_w, i32_w]
                rfl
              refine take_ (i := 1) (N := some 51) (v := ?_) (a' := ?_) #[true, true, true, false, false, false, true, false, true, false, false, false] rfl rfl (take_ofW HT_.out HW_.out (by kernel_rfl)) (fun _ _ _ h => h) (Or.inl ⟨by rfl, ?_⟩) hHeld ?_ ?_
              rotate_left
              · rintro w' ⟨s0, s1, s2, s3⟩
                go_simp
                with_reducible rfl
              rotate_left
              · simp only [Act.put, List.setIfInBounds_toArray, List.set_cons_zero, List.set_cons_succ, i64_w, i32_w]
                rfl
              refine take_ (i := 7) (N := some 57) (v := ?_) (a' := ?_) #[true, true, true, false, false, false, true, true, true, false, false, false] rfl rfl (take_ofW HT_.out HW_.out (by kernel_rfl)) (fun _ _ _ h => h) (Or.inl ⟨by rfl, ?_⟩) hHeld ?_ ?_
              rotate_left
              · rintro w' ⟨s0, s1, s2, s3⟩
                go_simp
                with_reducible rfl
              rotate_left
              · simp only [Act.put, List.setIfInBounds_toArray, List.set_cons_zero, List.set_cons_succ, i64_w, i32_w]
                rfl
              refine pure_ (i := 3) (N := some 53) (v := ?_) (a' := ?_) #[true, true, true, true, false, false, true, true, true, false, false, false] rfl rfl (any_of HT_.out (by kernel_rfl)) (fun _ _ _ h => h) (Or.inl ⟨by rfl, ?_⟩) ?_ ?_
              rotate_left
              · intro w'
                go_simp
                with_reducible rfl
              rotate_left
              · simp only [Act.put, List.setIfInBounds_toArray, List.set_cons_zero, List.set_cons_succ, i64_w, i32_w]
                rfl
              refine pure_ (i := 9) (N := some 59) (v := ?_) (a' := ?_) #[true, true, true, true, false, false, true, true, true, true, false, false] rfl rfl (any_of HT_.out (by kernel_rfl)) (fun _ _ _ h => h) (Or.inl ⟨by rfl, ?_⟩) ?_ ?_
              rotate_left
              · intro w'
                go_simp
                with_reducible rfl
              rotate_left
              · simp only [Act.put, List.setIfInBounds_toArray, List.set_cons_zero, List.set_cons_succ, i64_w, i32_w]
                rfl
              refine pure_ (i := 4) (N := some 54) (v := ?_) (a' := ?_) #[true, true, true, true, true, false, true, true, true, true, false, false] rfl rfl (any_of HT_.out (by kernel_rfl)) (fun _ _ _ h => h) (Or.inl ⟨by rfl, ?_⟩) ?_ ?_
              rotate_left
              · intro w'
                go_simp
                with_reducible rfl
              rotate_left
              · simp only [Act.put, List.setIfInBounds_toArray, List.set_cons_zero, List.set_cons_succ, i64_w, i32_w]
                rfl
              refine take_ (i := 5) (N := some 55) (v := ?_) (a' := ?_) #[true, true, true, true, true, true, true, true, true, true, false, false] rfl rfl (take_ofW HT_.out HW_.out (by kernel_rfl)) (fun _ _ _ h => h) (Or.inl ⟨by rfl, ?_⟩) hHeld ?_ ?_
              rotate_left
              · rintro w' ⟨s0, s1, s2, s3⟩
                go_simp
                with_reducible rfl
              rotate_left
              · simp only [Act.put, List.setIfInBounds_toArray, List.set_cons_zero, List.set_cons_succ, i64_w, i32_w]
                rfl
              refine take_ (i := 10) (N := some 60) (v := ?_) (a' := ?_) #[true, true, true, true, true, true, true, true, true, true, true, false] rfl rfl (take_ofW HT_.out HW_.out (by kernel_rfl)) (fun _ _ _ h => h) (Or.inl ⟨by rfl, ?_⟩) hHeld ?_ ?_
              rotate_left
              · rintro w' ⟨s0, s1, s2, s3⟩
                go_simp
                with_reducible rfl
              rotate_left
              · simp only [Act.put, List.setIfInBounds_toArray, List.set_cons_zero, List.set_cons_succ, i64_w, i32_w]
                rfl
              refine pure_ (i := 11) (N := some 61) (v := ?_) (a' := ?_) #[true, true, true, true, true, true, true, true, true, true, true, true] rfl rfl (any_of HT_.out (by kernel_rfl)) (fun _ _ _ h => h) (Or.inl ⟨by rfl, ?_⟩) ?_ ?_
              rotate_left
              · intro w'
                go_simp
                with_reducible rfl
              rotate_left
              · simp only [Act.put, List.setIfInBounds_toArray, List.set_cons_zero, List.set_cons_succ, i64_w, i32_w]
                rfl
              refine done_ (done_of HT_.out (by kernel_rfl)) ?_
              have GD := Aside0.mk (GR.out.below (below_drew1 (Below.refl _ _)))
              have SD := Aside0.mk (blk_drew SR.out)
              have RD := Aside0.mk (Kd.R_drew RR.out)
              have KD := Aside0.mk (KR.out.trans (⟨rfl, rfl, rfl, Nat.le_refl _, fun _ _ _ => rfl⟩ : Ks gs wr wr.drew))
              generalize wr.drew = w14 at GD SD RD KD ⊢
              clear GR SR RR KR f3 s3 hHeld
              by_cases cq : y.f0.toList = x.f3[jj].toList
              · have cb0 : (y.f0.toList == x.f3[jj].toList) = true := beq_iff_eq.2 cq
                go_wp2
                rotate_left
                · rename_i hh
                  rw [cb0] at hh
                  cases hh
                have s2 : w14.cell? ⟨gs, 2, none⟩ = some (.slice Av vs.length cv) := (blk_cell SD.out 2).trans rfl
                refine start_ (n := 11) (S := fun w' => w'.cell? ⟨gs, 2, none⟩ = some (.slice Av vs.length cv) ∧ w'.cell? ⟨gp, 3, none⟩ = some (.slice (some ad3) p3.length e3) ∧ w'.cell? ⟨(ad3.add (nn * 2)).block, (ad3.add (nn * 2)).off + 1, none⟩ = some (.slice A20 y.f1.length c20)) (ds := [10]) #[false, false, false, false, false, false, false, false, false, false, false] (by kernel_rfl) rfl rfl ⟨s2, (GD.out.fp 3).trans rfl, GD.out.cell hx1⟩ (fun hHeld => ?_); refine with_tabW gg.tab16 gg.bits16 (fun HT_ HW_ => ?_)
                have GE := Aside0.mk (GD.out.below (below_drew1 (Below.refl _ _)))
                have SE := Aside0.mk (blk_drew SD.out)
                have RE := Aside0.mk (Kd.R_drew RD.out)
                have KE := Aside0.mk (KD.out.trans (⟨rfl, rfl, rfl, Nat.le_refl _, fun _ _ _ => rfl⟩ : Ks gs w14 w14.drew))
                generalize w14.drew = w15 at GE SE RE KE hHeld ⊢
                clear GD SD RD KD s2
                refine pure_ (i := 0) (N := some 62) (v := ?_) (a' := ?_) #[true, false, false, false, false, false, false, false, false, false, false] rfl rfl (any_of HT_.out (by kernel_rfl)) (fun _ _ _ h => h) (Or.inl ⟨by rfl, ?_⟩) ?_ ?_
                rotate_left
                · intro w'
                  go_simp
                  with_reducible rfl
                rotate_left
                · simp only [Act.put, List.setIfInBounds_toArray, List.set_cons_zero, List.set_cons_succ, i64_w, i32_w]
                  rfl
                refine pure_ (i := 2) (N := some 64) (v := ?_) (a' := ?_) #[true, false, true, false, false, false, false, false, false, false, false] rfl rfl (any_of HT_.out (by kernel_rfl)) (fun _ _ _ h => h) (Or.inl ⟨by rfl, ?_⟩) ?_ ?_
                rotate_left
                · intro w'
                  go_simp
                  with_reducible rfl
                rotate_left
                · simp only [Act.put, List.setIfInBounds_toArray, List.set_cons_zero, List.set_cons_succ, i64_w, i32_w]
                  rfl
                refine pure_ (i := 4) (N := some 66) (v := ?_) (a' := ?_) #[true, false, true, false, true, false, false, false, false, false, false] rfl rfl (any_of HT_.out (by kernel_rfl)) (fun _ _ _ h => h) (Or.inl ⟨by rfl, ?_⟩) ?_ ?_
                rotate_left
                · intro w'
                  go_simp
                  with_reducible rfl
                rotate_left
                · simp only [Act.put, List.setIfInBounds_toArray, List.set_cons_zero, List.set_cons_succ, i64_w, i32_w]
                  rfl
                refine take_ (i := 1) (N := some 63) (v := ?_) (a' := ?_) #[true, true, true, false, true, false, false, false, false, false, false] rfl rfl (take_ofW HT_.out HW_.out (by kernel_rfl)) (fun _ _ _ h => h) (Or.inl ⟨by rfl, ?_⟩) hHeld ?_ ?_
                rotate_left
                · rintro w' ⟨s0, s1, s2⟩
                  go_simp
                  with_reducible rfl
                rotate_left
                · simp only [Act.put, List.setIfInBounds_toArray, List.set_cons_zero, List.set_cons_succ, i64_w, i32_w]
                  rfl
                refine take_ (i := 3) (N := some 65) (v := ?_) (a' := ?_) #[true, true, true, true, true, false, false, false, false, false, false] rfl rfl (take_ofW HT_.out HW_.out (by kernel_rfl)) (fun _ _ _ h => h) (Or.inl ⟨by rfl, ?_⟩) hHeld ?_ ?_
                rotate_left
                · rintro w' ⟨s0, s1, s2⟩
                  go_simp
                  with_reducible rfl
                rotate_left
                · simp only [Act.put, List.setIfInBounds_toArray, List.set_cons_zero, List.set_cons_succ, i64_w, i32_w]
                  rfl
                refine pure_ (i := 5) (N := some 67) (v := ?_) (a' := ?_) #[true, true, true, true, true, true, false, false, false, false, false] rfl rfl (any_of HT_.out (by kernel_rfl)) (fun _ _ _ h => h) (Or.inl ⟨by rfl, ?_⟩) ?_ ?_
                rotate_left
                · intro w'
                  go_simp
                  with_reducible rfl
                rotate_left
                · simp only [Act.put, List.setIfInBounds_toArray, List.set_cons_zero, List.set_cons_succ, i64_w, i32_w]
                  rfl
                refine pure_ (i := 6) (N := some 68) (v := ?_) (a' := ?_) #[true, true, true, true, true, true, true, false, false, false, false] rfl rfl (any_of HT_.out (by kernel_rfl)) (fun _ _ _ h => h) (Or.inl ⟨by rfl, ?_⟩) ?_ ?_
                rotate_left
                · intro w'
                  go_simp
                  with_reducible rfl
                rotate_left
                · simp only [Act.put, List.setIfInBounds_toArray, List.set_cons_zero, List.set_cons_succ, i64_w, i32_w]
                  rfl
                refine take_ (i := 7) (N := some 69) (v := ?_) (a' := ?_) #[true, true, true, true, true, true, true, true, false, false, false] rfl rfl (take_ofW HT_.out HW_.out (by kernel_rfl)) (fun _ _ _ h => h) (Or.inl ⟨by rfl, ?_⟩) hHeld ?_ ?_
                rotate_left
                · rintro w' ⟨s0, s1, s2⟩
                  go_simp
                  with_reducible rfl
                rotate_left
                · simp only [Act.put, List.setIfInBounds_toArray, List.set_cons_zero, List.set_cons_succ, i64_w, i32_w]
                  rfl
                refine one_ (i := 8) (N := some 70) #[true, true, true, true, true, true, true, true, true, false, false] rfl rfl (one_of HT_.out (by kernel_rfl)) (by decide) (fun K hK => ?_)
                have hK := Aside0.mk hK
                have hy8 : y.f1.length ≤ 8 := hg8.2 y (by rw [HY.out]; exact List.getElem_mem _)
                refine Kd.R_append_rows_step Kd.string (w0 := w15) w10.heap.size (by rfl) (.tmp 63) (.tmp 69) 23 9 (.string ⟨#[]⟩) 16 rfl Try.underlying23 info9 rfl (by decide) (by omega) (.slice Av vs.length cv) vs y.f1 _ _ _ (fun k => w10.heap.size ≤ k) (fun _ => False) rfl rfl ?aO ?aR (fun _ _ h => h) (fun _ h => h.elim) ?aF ?aB ?aS ?aL ?_
                (case aR => exact Kd.C_below IY.out.2 GE.out.hb)
                (case aB => exact Below.refl _ _)
                (case aF => exact fun k hk => Nat.le_trans KE.out.size hk)
                (case aO => exact RE.out)
                (case aS => exact KE.out.size)
                (case aL => have := hg8.1; omega)
                intro v16 w16 ho hb hg hat
                obtain ⟨A16, c16, rfl⟩ := Kd.R_slice ho
                have KF := Aside0.mk (KE.out.grown hg (Kd.R_base RE.out))
                have RF := Aside0.mk ho
                have SF := Aside0.mk ((hg.block gs (blk_lt SE.out) (fun e => by have := Kd.R_base RE.out gs e.symm; have := blk_lt S10.out; omega)).trans SE.out)
                have GF := Aside0.mk (G10.out.ks KF.out HS.out (blk_lt S10.out) NSP.out NSA.out)
                have t2 : w16.cell? ⟨gs, 2, none⟩ = some (.slice Av vs.length cv) := (blk_cell SF.out 2).trans rfl
                have tf := blk_frozen SF.out 2
                refine hK.out _ _ ⟨t2, (GF.out.fp 3).trans rfl, GF.out.cell hx1⟩ (fun hHeld => ?_)
                clear hK hat hb hg ho KE RE SE GE
                refine norm_ (a' := ?_) ?_ ?_
                rotate_left
                · show Act.put _ (some 70) _ = _
                  simp only [Act.put, List.setIfInBounds_toArray, List.set_cons_zero, List.set_cons_succ, i64_w, i32_w]
                  rfl
                refine pure_ (i := 9) (N := some 71) (v := ?_) (a' := ?_) #[true, true, true, true, true, true, true, true, true, true, false] rfl rfl (any_of HT_.out (by kernel_rfl)) (fun _ _ _ h => h) (Or.inl ⟨by rfl, ?_⟩) ?_ ?_
                rotate_left
                · intro w'
                  go_simp
                  with_reducible rfl
                rotate_left
                · simp only [Act.put, List.setIfInBounds_toArray, List.set_cons_zero, List.set_cons_succ, i64_w, i32_w]
                  rfl
                refine last_ (i := 10) (N := none) #[true, true, true, true, true, true, true, true, true, true, true] rfl rfl (one_of HT_.out (by kernel_rfl)) (by decide) (fun K hK => ?_)
                refine skip_ (w1 := ?_) (by rfl) rfl ?_ ?_
                rotate_left
                · go_simp
                  rfl
                refine hK _ _ ?_
                refine done_ (done_of HT_.out (by kernel_rfl)) ?_
                try go_wp2
                go_roundg (p3.length - (nn + 1))
                case measure => omega
                case rel =>
                  refine ⟨nn + 1, A16, c16, vs ++ y.f1, by omega, by omega, by go_num, ?_, by rw [List.length_append]; omega, ⟨KF.out.trans ⟨rfl, rfl, rfl, by simp [World.setCell], fun k _ hk => Below.heap_setCell w16 ⟨gs, 2, none⟩ _ k hk⟩⟩, ⟨by rw [List.length_append]; exact blk_put SF.out 2 _ rfl⟩, ⟨Kd.R_far (p := ⟨gs, 2, none⟩) RF.out (fun k hk => by show k ≠ gs; have := blk_lt S10.out; omega) _⟩⟩
                  rw [HV.out, List.append_assoc, List.take_succ_eq_append_getElem hln]
                  congr 1
                  unfold usersOf
                  rw [List.filter_append, List.flatMap_append, ← HY.out]
                  simp [cq]
              · have cb0 : (y.f0.toList == x.f3[jj].toList) = false := beq_eq_false_iff_ne.2 cq
                go_wp2
                · rename_i hh
                  rw [cb0] at hh
                  cases hh
                go_roundg (p3.length - (nn + 1))
                case measure => omega
                case rel =>
                  refine ⟨nn + 1, Av, cv, vs, by omega, by omega, by go_num, ?_, by omega, KD, SD, RD⟩
                  rw [HV.out, List.take_succ_eq_append_getElem hln]
                  congr 1
                  unfold usersOf
                  rw [List.filter_append, List.flatMap_append, ← HY.out]
                  simp [cq]
            · have hlnz : ¬ (nn : Int) < (p3.length : Int) := by omega
              obtain rfl : nn = p3.length := by omega
              go_wp2
              go_roundg (x.f3.length - (jj + 1))
              case measure => omega
              case rel =>
                refine ⟨jj + 1, Av, cv, vs, by omega, by omega, by go_num, ?_, by have := hg8.1; omega, KR, SR, RR⟩
                rw [HV.out, HU.out, List.take_length, List.take_succ_eq_append_getElem hlj, List.flatMap_append, List.append_assoc]
                congr 1
                congr 1
                simp
        · have hljz : ¬ (jj : Int) < (x.f3.length : Int) := by omega
          obtain rfl : jj = x.f3.length := by omega
          have sf3 := blk_frozen SR.out 3
          go_upto_region 17 with (fail)
          go_upto_region 18 with (fail)
          have S17 := Aside0.mk (show (wr.setCell ⟨gs, 3, none⟩ (.slice none 0 0)).heap[gs]? = some (.cells #[.string x.f0, .bool x.f1, .slice Au us.length cu, .slice none 0 0, .slice A8 x.f4.length c8, .slice A9 x.f5.length c9] 34 (0, 0)) from blk_put SR.out 3 _ rfl)
          have R17 := Aside0.mk (Kd.R_far (p := ⟨gs, 3, none⟩) RR.out (fun k hk => by show k ≠ gs; have := blk_lt S10.out; omega) (.slice none 0 0))
          have K17 := Aside0.mk (KR.out.trans (⟨rfl, rfl, rfl, by simp [World.setCell], fun k _ hk => Below.heap_setCell wr ⟨gs, 3, none⟩ (.slice none 0 0) k hk⟩ : Ks gs wr (wr.setCell ⟨gs, 3, none⟩ (.slice none 0 0))))
          generalize wr.setCell ⟨gs, 3, none⟩ (.slice none 0 0) = w17 at S17 R17 K17 ⊢
          clear SR RR KR s3 sf3
          have N17 := Aside0.mk (Kd.N_step (Kd.N_bound N10.out) (fun k hk hlt => K17.out.block k hk.2 (fun e => by have := hk.1.2; have := GSE.out; omega)))
          have G17 := Aside0.mk (G10.out.ks K17.out HS.out (blk_lt S10.out) NSP.out NSA.out)
          have Q17 := Aside0.mk ((K17.out.block gq (blk_lt Q10.out) (Ne.symm NSQ.out)).trans Q10.out)
          obtain ⟨Lq, hLq⟩ : ∃ Lq, Lq = (p4.take kk).map (turn p3) := ⟨_, rfl⟩
          rw [← hLq] at N17
          have HLP := Aside0.mk (show Lq.length = kk by rw [hLq, List.length_map, List.length_take]; omega)
          have HLQ := Aside0.mk hLq
          clear hLq
          obtain ⟨Aq, cq_, rfl⟩ := Kd.N_slice N17.out
          have hq4 : w17.cell? ⟨gq, 4, none⟩ = some (.slice Aq Lq.length cq_) := (blk_cell Q17.out 4).trans rfl
          have u0 : w17.cell? ⟨gs, 0, none⟩ = some (.string x.f0) := (blk_cell S17.out 0).trans rfl
          have u1 : w17.cell? ⟨gs, 1, none⟩ = some (.bool x.f1) := (blk_cell S17.out 1).trans rfl
          have u2 : w17.cell? ⟨gs, 2, none⟩ = some (.slice Au us.length cu) := (blk_cell S17.out 2).trans rfl
          have u3 : w17.cell? ⟨gs, 3, none⟩ = some (.slice none 0 0) := (blk_cell S17.out 3).trans rfl
          have u4 : w17.cell? ⟨gs, 4, none⟩ = some (.slice A8 x.f4.length c8) := (blk_cell S17.out 4).trans rfl
          have u5 : w17.cell? ⟨gs, 5, none⟩ = some (.slice A9 x.f5.length c9) := (blk_cell S17.out 5).trans rfl
          have NB := Aside0.mk (Kd.N_base N17.out)
          have NL := Aside0.mk (Kd.N_lt N10.out)
          have FX := Aside0.mk (k34_mkF w17 (fun k => w10.heap.size ≤ k ∨ k < w2.heap.size) (⟨x.f0, x.f1, us, [], x.f4, x.f5⟩ : S34) (Kd.R_reads' R17.out).2.1 (Kd.F_mono (Kd.R_F R17.out) (fun k hk => Or.inl hk)) (Nat.zero_le 0) (Kd.F_nil Kd.string w17 _) I4.out.1 (Kd.F_mono (Kd.F_below (Kd.C_F Kd.heap_string I4.out.2) G17.out.hb) (fun k hk => Or.inr hk)) I5.out.1 (Kd.F_mono (Kd.F_below (Kd.C_F Kd.heap_string I5.out.2) G17.out.hb) (fun k hk => Or.inr hk)))
          have AK := Aside0.mk (show ∀ k, (w10.heap.size ≤ k ∨ k < w2.heap.size) → (k ≠ gp ∧ k ≠ ga ∧ k ≠ gq) ∧ some k ≠ (Value.slice Aq Lq.length cq_).ownBlock from fun k hk => by
            have h1 := G10.out.g0
            have h2 := blk_lt G10.out.bp
            have h3 := G10.out.g1
            have h4 := blk_lt G10.out.ba
            have h5 := HQ.out
            have h6 := blk_lt Q10.out
            refine ⟨⟨by omega, by omega, by omega⟩, fun e => ?_⟩
            have h7 := NB.out k e.symm
            have h8 := NL.out k e.symm
            omega)
          have AF := Aside0.mk (show ∀ k, w17.heap.size ≤ k → (k ≠ gp ∧ k ≠ ga ∧ k ≠ gq) from fun k hk => by
            have h2 := blk_lt G17.out.bp
            have h4 := blk_lt G17.out.ba
            have h6 := blk_lt Q17.out
            exact ⟨by omega, by omega, by omega⟩)
          go_wp2_with (first | ((with_reducible refine gate_builtin (b := .append) (xs := #[.tmp 74, .tmp 76]) rfl ?_); (try (refine gate_guard (by rfl) ?_; dsimp only)); at_builtin; refine Kd.N_append k34 (w0 := w2) w2.heap.size ?aX1 (.tmp 74) (.tmp 76) 25 34 (.agg #[(.string ⟨#[]⟩), (.bool false), (.slice none 0 0), (.slice none 0 0), (.slice none 0 0), (.slice none 0 0)]) 120 ?aX2 Try.underlying25 info34 rfl (by decide) (by omega) (.slice Aq Lq.length cq_) Lq (⟨x.f0, x.f1, us, [], x.f4, x.f5⟩ : S34) [.string x.f0, .bool x.f1, .slice Au us.length cu, .slice none 0 0, .slice A8 x.f4.length c8, .slice A9 x.f5.length c9] (fun k => k ≠ gp ∧ k ≠ ga ∧ k ≠ gq) (fun k => w10.heap.size ≤ k ∨ k < w2.heap.size) ?aX3 ?aX4 ?aP ?aK ?aF ?aO ?aB ?aS ?aL ?_; (case aX1 => rfl); (case aX2 => rfl); (case aX3 => rfl); (case aX4 => rfl); (case aP => exact FX.out); (case aK => exact AK.out); (case aF => exact AF.out); (case aO => exact Kd.N_mono N17.out (fun k hk => hk.1.1)); (case aB => exact G17.out.hb); (case aS => exact G17.out.hb.size); (case aL => rw [HLP.out]; omega); intro v18 w18 ho hb hg hat; obtain ⟨A18, c18, rfl⟩ := Kd.N_slice ho; have N18 := Aside0.mk ho; have Q18 := Aside0.mk ((hg.block gq (blk_lt Q17.out) (fun e => (N17.out.1 gq e.symm).1.1.2.2 rfl)).trans Q17.out); have G18 := Aside0.mk (show Gx w2 gp ga _ _ w18 from ⟨hb, (hg.block gp (blk_lt G17.out.bp) (fun e => (N17.out.1 gp e.symm).1.1.1 rfl)).trans G17.out.bp, (hg.block ga (blk_lt G17.out.ba) (fun e => (N17.out.1 ga e.symm).1.1.2.1 rfl)).trans G17.out.ba, G17.out.g0, G17.out.g1⟩); have hq18 : w18.cell? ⟨gq, 4, none⟩ = some (.slice Aq Lq.length cq_) := (blk_cell Q18.out 4).trans rfl; have hqf18 := blk_frozen Q18.out 4; clear ho hb hg hat))
          go_roundg (p4.length - (kk + 1))
          case measure => omega
          case rel =>
            refine ⟨kk + 1, .slice A18 (Lq ++ [(⟨x.f0, x.f1, us, [], x.f4, x.f5⟩ : S34)]).length c18, by omega, by omega, by go_num, ⟨G18.out.set HQ.out NQ.out NA.out 4 _⟩, ⟨by rw [List.length_append]; exact blk_put Q18.out 4 _ rfl⟩, ⟨?_⟩⟩
            have e : (p4.take (kk + 1)).map (turn p3) = Lq ++ [(⟨x.f0, x.f1, us, [], x.f4, x.f5⟩ : S34)] := by
              rw [List.take_succ_eq_append_getElem hlt, List.map_append, HLQ.out, ← HX.out, HU.out, List.take_length]
              rfl
            rw [e]
            exact Kd.N_far (p := ⟨gq, 4, none⟩) N18.out (fun k hk => hk.2.2) _
    · have hltz : ¬ (kk : Int) < (p4.length : Int) := by omega
      obtain rfl : kk = p4.length := by omega
      rw [List.take_length] at NR
      obtain ⟨Lq, hLq⟩ : ∃ Lq, Lq = p4.map (turn p3) := ⟨_, rfl⟩
      rw [← hLq] at NR
      rw [← hLq] at HM2
      clear hLq
      obtain ⟨Aq, cq_, rfl⟩ := Kd.N_slice NR.out
      have a1 : wr.cell? ⟨ga, 1, none⟩ = some (.string u) := (GR.out.fa 1).trans rfl
      go_upto_region 19 with (fail)
      go_upto_region 20 with (fail)
      all_goals
        first
          | rw [show (u.toList == [117] || u.toList == [118]) = true from (by have h : u.toList = [117] := (by assumption); rw [h]; rfl)] at HIN
          | generalize (u.toList == [117] || u.toList == [118]) = iv at HIN ⊢
        have GZ := Aside0.mk (GR.out.below (below_drew1 (Below.refl _ _)))
        have QZ := Aside0.mk (blk_drew QR.out)
        have NZ := Aside0.mk (Kd.N_drew NR.out)
        refine start_ (n := 46) (S := fun w' => w'.cell? ⟨gp, 0, none⟩ = some (.slice P0 p0.length e0) ∧ w'.cell? ⟨gp, 1, none⟩ = some (.slice P1 p1.length e1) ∧ w'.cell? ⟨gp, 2, none⟩ = some (.slice P2 p2.length e2) ∧ w'.cell? ⟨gp, 3, none⟩ = some (.slice P3 p3.length e3) ∧ w'.cell? ⟨gp, 4, none⟩ = some (.slice P4 p4.length e4) ∧ w'.cell? ⟨gp, 5, none⟩ = some (.slice P5 p5.length e5) ∧ w'.cell? ⟨ga, 1, none⟩ = some (.string u) ∧ w'.cell? ⟨ga, 2, none⟩ = some (.string a) ∧ w'.cell? ⟨ga, 3, none⟩ = some (.string o) ∧ w'.cell? ⟨gq, 0, none⟩ = some (.slice P0 p0.length e0) ∧ w'.cell? ⟨gq, 1, none⟩ = some (.slice P1 p1.length e1) ∧ w'.cell? ⟨gq, 2, none⟩ = some (.slice P2 p2.length e2) ∧ w'.cell? ⟨gq, 3, none⟩ = some (.slice P3 p3.length e3) ∧ w'.cell? ⟨gq, 4, none⟩ = some (.slice Aq Lq.length cq_) ∧ w'.cell? ⟨gq, 5, none⟩ = some (.slice P5 p5.length e5)) (ds := []) #[false, false, false, false, false, false, false, false, false, false, false, false, false, false, false, false, false, false, false, false, false, false, false, false, false, false, false, false, false, false, false, false, false, false, false, false, false, false, false, false, false, false, false, false, false, false] (by kernel_rfl) rfl rfl ⟨(GZ.out.fp 0).trans rfl, (GZ.out.fp 1).trans rfl, (GZ.out.fp 2).trans rfl, (GZ.out.fp 3).trans rfl, (GZ.out.fp 4).trans rfl, (GZ.out.fp 5).trans rfl, (GZ.out.fa 1).trans rfl, (GZ.out.fa 2).trans rfl, (GZ.out.fa 3).trans rfl, (blk_cell QZ.out 0).trans rfl, (blk_cell QZ.out 1).trans rfl, (blk_cell QZ.out 2).trans rfl, (blk_cell QZ.out 3).trans rfl, (blk_cell QZ.out 4).trans rfl, (blk_cell QZ.out 5).trans rfl⟩ (fun hHeld => ?_); refine with_tabW gg.tab20 gg.bits20 (fun HT_ HW_ => ?_)
        have GD := GZ
        have QD := QZ
        have ND := NZ
        generalize wr.drew = w20 at GD QD ND hHeld ⊢
        clear GZ QZ NZ
        refine take_ (i := 0) (N := some 87) (v := ?_) (a' := ?_) #[true, false, false, false, false, false, false, false, false, false, false, false, false, false, false, false, false, false, false, false, false, false, false, false, false, false, false, false, false, false, false, false, false, false, false, false, false, false, false, false, false, false, false, false, false, false] rfl rfl (take_ofW HT_.out HW_.out (by kernel_rfl)) (fun _ _ _ h => h) (Or.inl ⟨by rfl, ?_⟩) hHeld ?_ ?_
        rotate_left
        · rintro w' ⟨s0, s1, s2, s3, s4, s5, s6, s7, s8, s9, s10, s11, s12, s13, s14⟩
          go_simp
          with_reducible rfl
        rotate_left
        · simp only [Act.put, List.setIfInBounds_toArray, List.set_cons_zero, List.set_cons_succ, i64_w, i32_w]
          rfl
        refine pure_ (i := 1) (N := some 88) (v := ?_) (a' := ?_) #[true, true, false, false, false, false, false, false, false, false, false, false, false, false, false, false, false, false, false, false, false, false, false, false, false, false, false, false, false, false, false, false, false, false, false, false, false, false, false, false, false, false, false, false, false, false] rfl rfl (any_of HT_.out (by kernel_rfl)) (fun _ _ _ h => h) (Or.inl ⟨by rfl, ?_⟩) ?_ ?_
        rotate_left
        · intro w'
          go_simp
          with_reducible rfl
        rotate_left
        · simp only [Act.put, List.setIfInBounds_toArray, List.set_cons_zero, List.set_cons_succ, i64_w, i32_w]
          rfl
        refine take_ (i := 2) (N := some 89) (v := ?_) (a' := ?_) #[true, true, true, false, false, false, false, false, false, false, false, false, false, false, false, false, false, false, false, false, false, false, false, false, false, false, false, false, false, false, false, false, false, false, false, false, false, false, false, false, false, false, false, false, false, false] rfl rfl (take_ofW HT_.out HW_.out (by kernel_rfl)) (fun _ _ _ h => h) (Or.inl ⟨by rfl, ?_⟩) hHeld ?_ ?_
        rotate_left
        · rintro w' ⟨s0, s1, s2, s3, s4, s5, s6, s7, s8, s9, s10, s11, s12, s13, s14⟩
          go_simp
          with_reducible rfl
        rotate_left
        · simp only [Act.put, List.setIfInBounds_toArray, List.set_cons_zero, List.set_cons_succ, i64_w, i32_w]
          rfl
        refine pure_ (i := 3) (N := some 90) (v := ?_) (a' := ?_) #[true, true, true, true, false, false, false, false, false, false, false, false, false, false, false, false, false, false, false, false, false, false, false, false, false, false, false, false, false, false, false, false, false, false, false, false, false, false, false, false, false, false, false, false, false, false] rfl rfl (any_of HT_.out (by kernel_rfl)) (fun _ _ _ h => h) (Or.inl ⟨by rfl, ?_⟩) ?_ ?_
        rotate_left
        · intro w'
          go_simp
          with_reducible rfl
        rotate_left
        · simp only [Act.put, List.setIfInBounds_toArray, List.set_cons_zero, List.set_cons_succ, i64_w, i32_w]
          rfl
        refine take_ (i := 4) (N := some 91) (v := ?_) (a' := ?_) #[true, true, true, true, true, false, false, false, false, false, false, false, false, false, false, false, false, false, false, false, false, false, false, false, false, false, false, false, false, false, false, false, false, false, false, false, false, false, false, false, false, false, false, false, false, false] rfl rfl (take_ofW HT_.out HW_.out (by kernel_rfl)) (fun _ _ _ h => h) (Or.inl ⟨by rfl, ?_⟩) hHeld ?_ ?_
        rotate_left
        · rintro w' ⟨s0, s1, s2, s3, s4, s5, s6, s7, s8, s9, s10, s11, s12, s13, s14⟩
          go_simp
          with_reducible rfl
        rotate_left
        · simp only [Act.put, List.setIfInBounds_toArray, List.set_cons_zero, List.set_cons_succ, i64_w, i32_w]
          rfl
        refine pure_ (i := 5) (N := some 92) (v := ?_) (a' := ?_) #[true, true, true, true, true, true, false, false, false, false, false, false, false, false, false, false, false, false, false, false, false, false, false, false, false, false, false, false, false, false, false, false, false, false, false, false, false, false, false, false, false, false, false, false, false, false] rfl rfl (any_of HT_.out (by kernel_rfl)) (fun _ _ _ h => h) (Or.inl ⟨by rfl, ?_⟩) ?_ ?_
        rotate_left
        · intro w'
          go_simp
          with_reducible rfl
        rotate_left
        · simp only [Act.put, List.setIfInBounds_toArray, List.set_cons_zero, List.set_cons_succ, i64_w, i32_w]
          rfl
        refine take_ (i := 6) (N := some 93) (v := ?_) (a' := ?_) #[true, true, true, true, true, true, true, false, false, false, false, false, false, false, false, false, false, false, false, false, false, false, false, false, false, false, false, false, false, false, false, false, false, false, false, false, false, false, false, false, false, false, false, false, false, false] rfl rfl (take_ofW HT_.out HW_.out (by kernel_rfl)) (fun _ _ _ h => h) (Or.inl ⟨by rfl, ?_⟩) hHeld ?_ ?_
        rotate_left
        · rintro w' ⟨s0, s1, s2, s3, s4, s5, s6, s7, s8, s9, s10, s11, s12, s13, s14⟩
          go_simp
          with_reducible rfl
        rotate_left
        · simp only [Act.put, List.setIfInBounds_toArray, List.set_cons_zero, List.set_cons_succ, i64_w, i32_w]
          rfl
        refine take_ (i := 8) (N := some 95) (v := ?_) (a' := ?_) #[true, true, true, true, true, true, true, false, true, false, false, false, false, false, false, false, false, false, false, false, false, false, false, false, false, false, false, false, false, false, false, false, false, false, false, false, false, false, false, false, false, false, false, false, false, false] rfl rfl (take_ofW HT_.out HW_.out (by kernel_rfl)) (fun _ _ _ h => h) (Or.inl ⟨by rfl, ?_⟩) hHeld ?_ ?_
        rotate_left
        · rintro w' ⟨s0, s1, s2, s3, s4, s5, s6, s7, s8, s9, s10, s11, s12, s13, s14⟩
          go_simp
          with_reducible rfl
        rotate_left
        · simp only [Act.put, List.setIfInBounds_toArray, List.set_cons_zero, List.set_cons_succ, i64_w, i32_w]
          rfl
        refine pure_ (i := 9) (N := some 96) (v := ?_) (a' := ?_) #[true, true, true, true, true, true, true, false, true, true, false, false, false, false, false, false, false, false, false, false, false, false, false, false, false, false, false, false, false, false, false, false, false, false, false, false, false, false, false, false, false, false, false, false, false, false] rfl rfl (any_of HT_.out (by kernel_rfl)) (fun _ _ _ h => h) (Or.inl ⟨by rfl, ?_⟩) ?_ ?_
        rotate_left
        · intro w'
          go_simp
          with_reducible rfl
        rotate_left
        · simp only [Act.put, List.setIfInBounds_toArray, List.set_cons_zero, List.set_cons_succ, i64_w, i32_w]
          rfl
        refine take_ (i := 10) (N := some 97) (v := ?_) (a' := ?_) #[true, true, true, true, true, true, true, false, true, true, true, false, false, false, false, false, false, false, false, false, false, false, false, false, false, false, false, false, false, false, false, false, false, false, false, false, false, false, false, false, false, false, false, false, false, false] rfl rfl (take_ofW HT_.out HW_.out (by kernel_rfl)) (fun _ _ _ h => h) (Or.inl ⟨by rfl, ?_⟩) hHeld ?_ ?_
        rotate_left
        · rintro w' ⟨s0, s1, s2, s3, s4, s5, s6, s7, s8, s9, s10, s11, s12, s13, s14⟩
          go_simp
          with_reducible rfl
        rotate_left
        · simp only [Act.put, List.setIfInBounds_toArray, List.set_cons_zero, List.set_cons_succ, i64_w, i32_w]
          rfl
        refine pure_ (i := 11) (N := some 98) (v := ?_) (a' := ?_) #[true, true, true, true, true, true, true, false, true, true, true, true, false, false, false, false, false, false, false, false, false, false, false, false, false, false, false, false, false, false, false, false, false, false, false, false, false, false, false, false, false, false, false, false, false, false] rfl rfl (any_of HT_.out (by kernel_rfl)) (fun _ _ _ h => h) (Or.inl ⟨by rfl, ?_⟩) ?_ ?_
        rotate_left
        · intro w'
          go_simp
          with_reducible rfl
        rotate_left
        · simp only [Act.put, List.setIfInBounds_toArray, List.set_cons_zero, List.set_cons_succ, i64_w, i32_w]
          rfl
        refine take_ (i := 12) (N := some 99) (v := ?_) (a' := ?_) #[true, true, true, true, true, true, true, false, true, true, true, true, true, false, false, false, false, false, false, false, false, false, false, false, false, false, false, false, false, false, false, false, false, false, false, false, false, false, false, false, false, false, false, false, false, false] rfl rfl (take_ofW HT_.out HW_.out (by kernel_rfl)) (fun _ _ _ h => h) (Or.inl ⟨by rfl, ?_⟩) hHeld ?_ ?_
        rotate_left
        · rintro w' ⟨s0, s1, s2, s3, s4, s5, s6, s7, s8, s9, s10, s11, s12, s13, s14⟩
          go_simp
          with_reducible rfl
        rotate_left
        · simp only [Act.put, List.setIfInBounds_toArray, List.set_cons_zero, List.set_cons_succ, i64_w, i32_w]
          rfl
        refine pure_ (i := 13) (N := some 100) (v := ?_) (a' := ?_) #[true, true, true, true, true, true, true, false, true, true, true, true, true, true, false, false, false, false, false, false, false, false, false, false, false, false, false, false, false, false, false, false, false, false, false, false, false, false, false, false, false, false, false, false, false, false] rfl rfl (any_of HT_.out (by kernel_rfl)) (fun _ _ _ h => h) (Or.inl ⟨by rfl, ?_⟩) ?_ ?_
        rotate_left
        · intro w'
          go_simp
          with_reducible rfl
        rotate_left
        · simp only [Act.put, List.setIfInBounds_toArray, List.set_cons_zero, List.set_cons_succ, i64_w, i32_w]
          rfl
        refine take_ (i := 14) (N := some 101) (v := ?_) (a' := ?_) #[true, true, true, true, true, true, true, false, true, true, true, true, true, true, true, false, false, false, false, false, false, false, false, false, false, false, false, false, false, false, false, false, false, false, false, false, false, false, false, false, false, false, false, false, false, false] rfl rfl (take_ofW HT_.out HW_.out (by kernel_rfl)) (fun _ _ _ h => h) (Or.inl ⟨by rfl, ?_⟩) hHeld ?_ ?_
        rotate_left
        · rintro w' ⟨s0, s1, s2, s3, s4, s5, s6, s7, s8, s9, s10, s11, s12, s13, s14⟩
          go_simp
          with_reducible rfl
        rotate_left
        · simp only [Act.put, List.setIfInBounds_toArray, List.set_cons_zero, List.set_cons_succ, i64_w, i32_w]
          rfl
        refine one_ (i := 7) (N := some 94) #[true, true, true, true, true, true, true, true, true, true, true, true, true, true, true, false, false, false, false, false, false, false, false, false, false, false, false, false, false, false, false, false, false, false, false, false, false, false, false, false, false, false, false, false, false, false] rfl rfl (one_of HT_.out (by kernel_rfl)) (by decide) (fun K hK => ?_)
        replace hK := Aside0.mk hK
        refine goes_ Try.func9 (by kernel_rfl) rfl #[.agg #[.slice P0 p0.length e0, .slice P1 p1.length e1, .slice P2 p2.length e2, .slice P3 p3.length e3, .slice P4 p4.length e4, .slice P5 p5.length e5], .string u, .string a, .string o] (by rfl) rfl rfl (by (try simp only [List.map_toArray, List.map_cons, List.map_nil]); first | done | rfl) ?_
        with_reducible refine (glob_May.calls k _ _ p0 _ _ p1 _ _ p2 _ _ p3 _ _ p4 _ _ p5 u a o m _ ?c0 ?d0 ?c1 ?d1 ?c2 ?d2 ?c3 ?d3 ?c4 ?d4 ?c5 ?d5 HM1.out).mono ?_
        (case c0 => exact Kd.C_below K0.out GD.out.hb)
        (case d0 => exact m0)
        (case c1 => exact Kd.C_below K1.out GD.out.hb)
        (case d1 => exact m1)
        (case c2 => exact Kd.C_below K2.out GD.out.hb)
        (case d2 => exact m2)
        (case c3 => exact Kd.C_below K3.out GD.out.hb)
        (case d3 => exact m3)
        (case c4 => exact Kd.C_below K4.out GD.out.hb)
        (case d4 => exact m4)
        (case c5 => exact Kd.C_below K5.out GD.out.hb)
        (case d5 => exact m5)
        rintro e w21 ⟨rfl, hb⟩
        refine ⟨_, rfl, ?_⟩
        replace GD := Aside0.mk (GD.out.below hb)
        replace QD := Aside0.mk (blk_below QD.out hb)
        replace ND := Aside0.mk (Kd.N_below (Kd.N_bound ND.out) hb)
        clear hb
        refine hK.out _ _ ⟨(GD.out.fp 0).trans rfl, (GD.out.fp 1).trans rfl, (GD.out.fp 2).trans rfl, (GD.out.fp 3).trans rfl, (GD.out.fp 4).trans rfl, (GD.out.fp 5).trans rfl, (GD.out.fa 1).trans rfl, (GD.out.fa 2).trans rfl, (GD.out.fa 3).trans rfl, (blk_cell QD.out 0).trans rfl, (blk_cell QD.out 1).trans rfl, (blk_cell QD.out 2).trans rfl, (blk_cell QD.out 3).trans rfl, (blk_cell QD.out 4).trans rfl, (blk_cell QD.out 5).trans rfl⟩ (fun hHeld => ?_)
        clear hK K
        refine norm_ (a' := ?_) ?_ ?_
        rotate_left
        · show Act.put _ (some 94) _ = _
          simp only [Act.put, List.setIfInBounds_toArray, List.set_cons_zero, List.set_cons_succ, i64_w, i32_w]
          rfl
        refine one_ (i := 15) (N := some 102) #[true, true, true, true, true, true, true, true, true, true, true, true, true, true, true, true, false, false, false, false, false, false, false, false, false, false, false, false, false, false, false, false, false, false, false, false, false, false, false, false, false, false, false, false, false, false] rfl rfl (one_of HT_.out (by kernel_rfl)) (by decide) (fun K hK => ?_)
        replace hK := Aside0.mk hK
        refine goes_ Try.func9 (by kernel_rfl) rfl #[.agg #[.slice P0 p0.length e0, .slice P1 p1.length e1, .slice P2 p2.length e2, .slice P3 p3.length e3, .slice Aq Lq.length cq_, .slice P5 p5.length e5], .string u, .string a, .string o] (by rfl) rfl rfl (by (try simp only [List.map_toArray, List.map_cons, List.map_nil]); first | done | rfl) ?_
        with_reducible refine (glob_May.calls k _ _ p0 _ _ p1 _ _ p2 _ _ p3 _ _ Lq _ _ p5 u a o m _ ?c0 ?d0 ?c1 ?d1 ?c2 ?d2 ?c3 ?d3 ?c4 ?d4 ?c5 ?d5 HM2.out).mono ?_
        (case c0 => exact Kd.C_below K0.out GD.out.hb)
        (case d0 => exact m0)
        (case c1 => exact Kd.C_below K1.out GD.out.hb)
        (case d1 => exact m1)
        (case c2 => exact Kd.C_below K2.out GD.out.hb)
        (case d2 => exact m2)
        (case c3 => exact Kd.C_below K3.out GD.out.hb)
        (case d3 => exact m3)
        (case c4 => exact (Kd.N_reads' ND.out).2.2)
        (case d4 => exact (Kd.N_reads' ND.out).2.1)
        (case c5 => exact Kd.C_below K5.out GD.out.hb)
        (case d5 => exact m5)
        rintro e w22 ⟨rfl, hb⟩
        refine ⟨_, rfl, ?_⟩
        replace GD := Aside0.mk (GD.out.below hb)
        replace QD := Aside0.mk (blk_below QD.out hb)
        replace ND := Aside0.mk (Kd.N_below (Kd.N_bound ND.out) hb)
        clear hb
        refine hK.out _ _ ⟨(GD.out.fp 0).trans rfl, (GD.out.fp 1).trans rfl, (GD.out.fp 2).trans rfl, (GD.out.fp 3).trans rfl, (GD.out.fp 4).trans rfl, (GD.out.fp 5).trans rfl, (GD.out.fa 1).trans rfl, (GD.out.fa 2).trans rfl, (GD.out.fa 3).trans rfl, (blk_cell QD.out 0).trans rfl, (blk_cell QD.out 1).trans rfl, (blk_cell QD.out 2).trans rfl, (blk_cell QD.out 3).trans rfl, (blk_cell QD.out 4).trans rfl, (blk_cell QD.out 5).trans rfl⟩ (fun hHeld => ?_)
        clear hK K
        refine norm_ (a' := ?_) ?_ ?_
        rotate_left
        · show Act.put _ (some 102) _ = _
          simp only [Act.put, List.setIfInBounds_toArray, List.set_cons_zero, List.set_cons_succ, i64_w, i32_w]
          rfl
        refine pure_ (i := 16) (N := some 103) (v := ?_) (a' := ?_) #[true, true, true, true, true, true, true, true, true, true, true, true, true, true, true, true, true, false, false, false, false, false, false, false, false, false, false, false, false, false, false, false, false, false, false, false, false, false, false, false, false, false, false, false, false, false] rfl rfl (any_of HT_.out (by kernel_rfl)) (fun _ _ _ h => h) (Or.inl ⟨by rfl, ?_⟩) ?_ ?_
        rotate_left
        · intro w'
          go_simp
          with_reducible rfl
        rotate_left
        · simp only [Act.put, List.setIfInBounds_toArray, List.set_cons_zero, List.set_cons_succ, i64_w, i32_w]
          rfl
        refine pure_ (i := 17) (N := some 104) (v := ?_) (a' := ?_) #[true, true, true, true, true, true, true, true, true, true, true, true, true, true, true, true, true, true, false, false, false, false, false, false, false, false, false, false, false, false, false, false, false, false, false, false, false, false, false, false, false, false, false, false, false, false] rfl rfl (any_of HT_.out (by kernel_rfl)) (fun _ _ _ h => h) (Or.inl ⟨by rfl, ?_⟩) ?_ ?_
        rotate_left
        · intro w'
          go_simp
          with_reducible rfl
        rotate_left
        · simp only [Act.put, List.setIfInBounds_toArray, List.set_cons_zero, List.set_cons_succ, i64_w, i32_w]
          rfl
        refine take_ (i := 18) (N := some 105) (v := ?_) (a' := ?_) #[true, true, true, true, true, true, true, true, true, true, true, true, true, true, true, true, true, true, true, false, false, false, false, false, false, false, false, false, false, false, false, false, false, false, false, false, false, false, false, false, false, false, false, false, false, false] rfl rfl (take_ofW HT_.out HW_.out (by kernel_rfl)) (fun _ _ _ h => h) (Or.inl ⟨by rfl, ?_⟩) hHeld ?_ ?_
        rotate_left
        · rintro w' ⟨s0, s1, s2, s3, s4, s5, s6, s7, s8, s9, s10, s11, s12, s13, s14⟩
          go_simp
          with_reducible rfl
        rotate_left
        · simp only [Act.put, List.setIfInBounds_toArray, List.set_cons_zero, List.set_cons_succ, i64_w, i32_w]
          rfl
        refine pure_ (i := 19) (N := some 106) (v := ?_) (a' := ?_) #[true, true, true, true, true, true, true, true, true, true, true, true, true, true, true, true, true, true, true, true, false, false, false, false, false, false, false, false, false, false, false, false, false, false, false, false, false, false, false, false, false, false, false, false, false, false] rfl rfl (any_of HT_.out (by kernel_rfl)) (fun _ _ _ h => h) (Or.inl ⟨by rfl, ?_⟩) ?_ ?_
        rotate_left
        · intro w'
          go_simp
          with_reducible rfl
        rotate_left
        · simp only [Act.put, List.setIfInBounds_toArray, List.set_cons_zero, List.set_cons_succ, i64_w, i32_w]
          rfl
        refine take_ (i := 20) (N := some 107) (v := ?_) (a' := ?_) #[true, true, true, true, true, true, true, true, true, true, true, true, true, true, true, true, true, true, true, true, true, false, false, false, false, false, false, false, false, false, false, false, false, false, false, false, false, false, false, false, false, false, false, false, false, false] rfl rfl (take_ofW HT_.out HW_.out (by kernel_rfl)) (fun _ _ _ h => h) (Or.inl ⟨by rfl, ?_⟩) hHeld ?_ ?_
        rotate_left
        · rintro w' ⟨s0, s1, s2, s3, s4, s5, s6, s7, s8, s9, s10, s11, s12, s13, s14⟩
          go_simp
          with_reducible rfl
        rotate_left
        · simp only [Act.put, List.setIfInBounds_toArray, List.set_cons_zero, List.set_cons_succ, i64_w, i32_w]
          rfl
        refine pure_ (i := 22) (N := some 109) (v := ?_) (a' := ?_) #[true, true, true, true, true, true, true, true, true, true, true, true, true, true, true, true, true, true, true, true, true, false, true, false, false, false, false, false, false, false, false, false, false, false, false, false, false, false, false, false, false, false, false, false, false, false] rfl rfl (any_of HT_.out (by kernel_rfl)) (fun _ _ _ h => h) (Or.inl ⟨by rfl, ?_⟩) ?_ ?_
        rotate_left
        · intro w'
          go_simp
          with_reducible rfl
        rotate_left
        · simp only [Act.put, List.setIfInBounds_toArray, List.set_cons_zero, List.set_cons_succ, i64_w, i32_w]
          rfl
        refine one_ (i := 21) (N := some 108) #[true, true, true, true, true, true, true, true, true, true, true, true, true, true, true, true, true, true, true, true, true, true, true, false, false, false, false, false, false, false, false, false, false, false, false, false, false, false, false, false, false, false, false, false, false, false] rfl rfl (one_of HT_.out (by kernel_rfl)) (by decide) (fun K hK => ?_)
        replace hK := Aside0.mk hK
        refine goes_ Try.func10 (by kernel_rfl) rfl #[.agg #[.slice P0 p0.length e0, .slice P1 p1.length e1, .slice P2 p2.length e2, .slice P3 p3.length e3, .slice P4 p4.length e4, .slice P5 p5.length e5], .string u, .string (⟨#[103]⟩ : ByteArray)] (by rfl) rfl rfl (by (try simp only [List.map_toArray, List.map_cons, List.map_nil]); first | done | rfl) ?_
        with_reducible refine (glob_In.calls k _ _ p0 _ _ p1 _ _ p2 _ _ p3 _ _ p4 _ _ p5 u (⟨#[103]⟩ : ByteArray) _ _ ?c0 ?d0 ?c1 ?d1 ?c2 ?d2 ?c3 ?d3 ?c4 ?d4 ?c5 ?d5 HIN.out).mono ?_
        (case c0 => exact Kd.C_below K0.out GD.out.hb)
        (case d0 => exact m0)
        (case c1 => exact Kd.C_below K1.out GD.out.hb)
        (case d1 => exact m1)
        (case c2 => exact Kd.C_below K2.out GD.out.hb)
        (case d2 => exact m2)
        (case c3 => exact Kd.C_below K3.out GD.out.hb)
        (case d3 => exact m3)
        (case c4 => exact Kd.C_below K4.out GD.out.hb)
        (case d4 => exact m4)
        (case c5 => exact Kd.C_below K5.out GD.out.hb)
        (case d5 => exact m5)
        rintro e w23 ⟨rfl, hb⟩
        refine ⟨_, rfl, ?_⟩
        replace GD := Aside0.mk (GD.out.below hb)
        replace QD := Aside0.mk (blk_below QD.out hb)
        replace ND := Aside0.mk (Kd.N_below (Kd.N_bound ND.out) hb)
        clear hb
        refine hK.out _ _ ⟨(GD.out.fp 0).trans rfl, (GD.out.fp 1).trans rfl, (GD.out.fp 2).trans rfl, (GD.out.fp 3).trans rfl, (GD.out.fp 4).trans rfl, (GD.out.fp 5).trans rfl, (GD.out.fa 1).trans rfl, (GD.out.fa 2).trans rfl, (GD.out.fa 3).trans rfl, (blk_cell QD.out 0).trans rfl, (blk_cell QD.out 1).trans rfl, (blk_cell QD.out 2).trans rfl, (blk_cell QD.out 3).trans rfl, (blk_cell QD.out 4).trans rfl, (blk_cell QD.out 5).trans rfl⟩ (fun hHeld => ?_)
        clear hK K
        refine norm_ (a' := ?_) ?_ ?_
        rotate_left
        · show Act.put _ (some 108) _ = _
          simp only [Act.put, List.setIfInBounds_toArray, List.set_cons_zero, List.set_cons_succ, i64_w, i32_w]
          rfl
        refine pure_ (i := 23) (N := some 110) (v := ?_) (a' := ?_) #[true, true, true, true, true, true, true, true, true, true, true, true, true, true, true, true, true, true, true, true, true, true, true, true, false, false, false, false, false, false, false, false, false, false, false, false, false, false, false, false, false, false, false, false, false, false] rfl rfl (any_of HT_.out (by kernel_rfl)) (fun _ _ _ h => h) (Or.inl ⟨by rfl, ?_⟩) ?_ ?_
        rotate_left
        · intro w'
          go_simp
          with_reducible rfl
        rotate_left
        · simp only [Act.put, List.setIfInBounds_toArray, List.set_cons_zero, List.set_cons_succ, i64_w, i32_w]
          rfl
        refine pure_ (i := 24) (N := some 111) (v := ?_) (a' := ?_) #[true, true, true, true, true, true, true, true, true, true, true, true, true, true, true, true, true, true, true, true, true, true, true, true, true, false, false, false, false, false, false, false, false, false, false, false, false, false, false, false, false, false, false, false, false, false] rfl rfl (any_of HT_.out (by kernel_rfl)) (fun _ _ _ h => h) (Or.inl ⟨by rfl, ?_⟩) ?_ ?_
        rotate_left
        · intro w'
          go_simp
          with_reducible rfl
        rotate_left
        · simp only [Act.put, List.setIfInBounds_toArray, List.set_cons_zero, List.set_cons_succ, i64_w, i32_w]
          rfl
        refine pure_ (i := 25) (N := some 112) (v := ?_) (a' := ?_) #[true, true, true, true, true, true, true, true, true, true, true, true, true, true, true, true, true, true, true, true, true, true, true, true, true, true, false, false, false, false, false, false, false, false, false, false, false, false, false, false, false, false, false, false, false, false] rfl rfl (any_of HT_.out (by kernel_rfl)) (fun _ _ _ h => h) (Or.inl ⟨by rfl, ?_⟩) ?_ ?_
        rotate_left
        · intro w'
          go_simp
          with_reducible rfl
        rotate_left
        · simp only [Act.put, List.setIfInBounds_toArray, List.set_cons_zero, List.set_cons_succ, i64_w, i32_w]
          rfl
        refine take_ (i := 26) (N := some 113) (v := ?_) (a' := ?_) #[true, true, true, true, true, true, true, true, true, true, true, true, true, true, true, true, true, true, true, true, true, true, true, true, true, true, true, false, false, false, false, false, false, false, false, false, false, false, false, false, false, false, false, false, false, false] rfl rfl (take_ofW HT_.out HW_.out (by kernel_rfl)) (fun _ _ _ h => h) (Or.inl ⟨by rfl, ?_⟩) hHeld ?_ ?_
        rotate_left
        · rintro w' ⟨s0, s1, s2, s3, s4, s5, s6, s7, s8, s9, s10, s11, s12, s13, s14⟩
          go_simp
          with_reducible rfl
        rotate_left
        · simp only [Act.put, List.setIfInBounds_toArray, List.set_cons_zero, List.set_cons_succ, i64_w, i32_w]
          rfl
        refine pure_ (i := 27) (N := some 114) (v := ?_) (a' := ?_) #[true, true, true, true, true, true, true, true, true, true, true, true, true, true, true, true, true, true, true, true, true, true, true, true, true, true, true, true, false, false, false, false, false, false, false, false, false, false, false, false, false, false, false, false, false, false] rfl rfl (any_of HT_.out (by kernel_rfl)) (fun _ _ _ h => h) (Or.inl ⟨by rfl, ?_⟩) ?_ ?_
        rotate_left
        · intro w'
          go_simp
          with_reducible rfl
        rotate_left
        · simp only [Act.put, List.setIfInBounds_toArray, List.set_cons_zero, List.set_cons_succ, i64_w, i32_w]
          rfl
        refine take_ (i := 28) (N := some 115) (v := ?_) (a' := ?_) #[true, true, true, true, true, true, true, true, true, true, true, true, true, true, true, true, true, true, true, true, true, true, true, true, true, true, true, true, true, false, false, false, false, false, false, false, false, false, false, false, false, false, false, false, false, false] rfl rfl (take_ofW HT_.out HW_.out (by kernel_rfl)) (fun _ _ _ h => h) (Or.inl ⟨by rfl, ?_⟩) hHeld ?_ ?_
        rotate_left
        · rintro w' ⟨s0, s1, s2, s3, s4, s5, s6, s7, s8, s9, s10, s11, s12, s13, s14⟩
          go_simp
          with_reducible rfl
        rotate_left
        · simp only [Act.put, List.setIfInBounds_toArray, List.set_cons_zero, List.set_cons_succ, i64_w, i32_w]
          rfl
        refine pure_ (i := 30) (N := some 117) (v := ?_) (a' := ?_) #[true, true, true, true, true, true, true, true, true, true, true, true, true, true, true, true, true, true, true, true, true, true, true, true, true, true, true, true, true, false, true, false, false, false, false, false, false, false, false, false, false, false, false, false, false, false] rfl rfl (any_of HT_.out (by kernel_rfl)) (fun _ _ _ h => h) (Or.inl ⟨by rfl, ?_⟩) ?_ ?_
        rotate_left
        · intro w'
          go_simp
          with_reducible rfl
        rotate_left
        · simp only [Act.put, List.setIfInBounds_toArray, List.set_cons_zero, List.set_cons_succ, i64_w, i32_w]
          rfl
        refine take_ (i := 31) (N := some 118) (v := ?_) (a' := ?_) #[true, true, true, true, true, true, true, true, true, true, true, true, true, true, true, true, true, true, true, true, true, true, true, true, true, true, true, true, true, false, true, true, false, false, false, false, false, false, false, false, false, false, false, false, false, false] rfl rfl (take_ofW HT_.out HW_.out (by kernel_rfl)) (fun _ _ _ h => h) (Or.inl ⟨by rfl, ?_⟩) hHeld ?_ ?_
        rotate_left
        · rintro w' ⟨s0, s1, s2, s3, s4, s5, s6, s7, s8, s9, s10, s11, s12, s13, s14⟩
          go_simp
          with_reducible rfl
        rotate_left
        · simp only [Act.put, List.setIfInBounds_toArray, List.set_cons_zero, List.set_cons_succ, i64_w, i32_w]
          rfl
        refine pure_ (i := 32) (N := some 119) (v := ?_) (a' := ?_) #[true, true, true, true, true, true, true, true, true, true, true, true, true, true, true, true, true, true, true, true, true, true, true, true, true, true, true, true, true, false, true, true, true, false, false, false, false, false, false, false, false, false, false, false, false, false] rfl rfl (any_of HT_.out (by kernel_rfl)) (fun _ _ _ h => h) (Or.inl ⟨by rfl, ?_⟩) ?_ ?_
        rotate_left
        · intro w'
          go_simp
          with_reducible rfl
        rotate_left
        · simp only [Act.put, List.setIfInBounds_toArray, List.set_cons_zero, List.set_cons_succ, i64_w, i32_w]
          rfl
        refine one_ (i := 29) (N := some 116) #[true, true, true, true, true, true, true, true, true, true, true, true, true, true, true, true, true, true, true, true, true, true, true, true, true, true, true, true, true, true, true, true, true, false, false, false, false, false, false, false, false, false, false, false, false, false] rfl rfl (one_of HT_.out (by kernel_rfl)) (by decide) (fun K hK => ?_)
        replace hK := Aside0.mk hK
        refine goes_ Try.func10 (by kernel_rfl) rfl #[.agg #[.slice P0 p0.length e0, .slice P1 p1.length e1, .slice P2 p2.length e2, .slice P3 p3.length e3, .slice P4 p4.length e4, .slice P5 p5.length e5], .string u, .string (⟨#[104]⟩ : ByteArray)] (by rfl) rfl rfl (by (try simp only [List.map_toArray, List.map_cons, List.map_nil]); first | done | rfl) ?_
        with_reducible refine (glob_In.calls k _ _ p0 _ _ p1 _ _ p2 _ _ p3 _ _ p4 _ _ p5 u (⟨#[104]⟩ : ByteArray) _ _ ?c0 ?d0 ?c1 ?d1 ?c2 ?d2 ?c3 ?d3 ?c4 ?d4 ?c5 ?d5 HIH.out).mono ?_
        (case c0 => exact Kd.C_below K0.out GD.out.hb)
        (case d0 => exact m0)
        (case c1 => exact Kd.C_below K1.out GD.out.hb)
        (case d1 => exact m1)
        (case c2 => exact Kd.C_below K2.out GD.out.hb)
        (case d2 => exact m2)
        (case c3 => exact Kd.C_below K3.out GD.out.hb)
        (case d3 => exact m3)
        (case c4 => exact Kd.C_below K4.out GD.out.hb)
        (case d4 => exact m4)
        (case c5 => exact Kd.C_below K5.out GD.out.hb)
        (case d5 => exact m5)
        rintro e w24 ⟨rfl, hb⟩
        refine ⟨_, rfl, ?_⟩
        replace GD := Aside0.mk (GD.out.below hb)
        replace QD := Aside0.mk (blk_below QD.out hb)
        replace ND := Aside0.mk (Kd.N_below (Kd.N_bound ND.out) hb)
        clear hb
        refine hK.out _ _ ⟨(GD.out.fp 0).trans rfl, (GD.out.fp 1).trans rfl, (GD.out.fp 2).trans rfl, (GD.out.fp 3).trans rfl, (GD.out.fp 4).trans rfl, (GD.out.fp 5).trans rfl, (GD.out.fa 1).trans rfl, (GD.out.fa 2).trans rfl, (GD.out.fa 3).trans rfl, (blk_cell QD.out 0).trans rfl, (blk_cell QD.out 1).trans rfl, (blk_cell QD.out 2).trans rfl, (blk_cell QD.out 3).trans rfl, (blk_cell QD.out 4).trans rfl, (blk_cell QD.out 5).trans rfl⟩ (fun hHeld => ?_)
        clear hK K
        refine norm_ (a' := ?_) ?_ ?_
        rotate_left
        · show Act.put _ (some 116) _ = _
          simp only [Act.put, List.setIfInBounds_toArray, List.set_cons_zero, List.set_cons_succ, i64_w, i32_w]
          rfl
        refine pure_ (i := 33) (N := some 120) (v := ?_) (a' := ?_) #[true, true, true, true, true, true, true, true, true, true, true, true, true, true, true, true, true, true, true, true, true, true, true, true, true, true, true, true, true, true, true, true, true, true, false, false, false, false, false, false, false, false, false, false, false, false] rfl rfl (any_of HT_.out (by kernel_rfl)) (fun _ _ _ h => h) (Or.inl ⟨by rfl, ?_⟩) ?_ ?_
        rotate_left
        · intro w'
          go_simp
          with_reducible rfl
        rotate_left
        · simp only [Act.put, List.setIfInBounds_toArray, List.set_cons_zero, List.set_cons_succ, i64_w, i32_w]
          rfl
        refine pure_ (i := 34) (N := some 121) (v := ?_) (a' := ?_) #[true, true, true, true, true, true, true, true, true, true, true, true, true, true, true, true, true, true, true, true, true, true, true, true, true, true, true, true, true, true, true, true, true, true, true, false, false, false, false, false, false, false, false, false, false, false] rfl rfl (any_of HT_.out (by kernel_rfl)) (fun _ _ _ h => h) (Or.inl ⟨by rfl, ?_⟩) ?_ ?_
        rotate_left
        · intro w'
          go_simp
          with_reducible rfl
        rotate_left
        · simp only [Act.put, List.setIfInBounds_toArray, List.set_cons_zero, List.set_cons_succ, i64_w, i32_w]
          rfl
        refine pure_ (i := 35) (N := some 122) (v := ?_) (a' := ?_) #[true, true, true, true, true, true, true, true, true, true, true, true, true, true, true, true, true, true, true, true, true, true, true, true, true, true, true, true, true, true, true, true, true, true, true, true, false, false, false, false, false, false, false, false, false, false] rfl rfl (any_of HT_.out (by kernel_rfl)) (fun _ _ _ h => h) (Or.inl ⟨by rfl, ?_⟩) ?_ ?_
        rotate_left
        · intro w'
          go_simp
          with_reducible rfl
        rotate_left
        · simp only [Act.put, List.setIfInBounds_toArray, List.set_cons_zero, List.set_cons_succ, i64_w, i32_w]
          rfl
        refine take_ (i := 36) (N := some 123) (v := ?_) (a' := ?_) #[true, true, true, true, true, true, true, true, true, true, true, true, true, true, true, true, true, true, true, true, true, true, true, true, true, true, true, true, true, true, true, true, true, true, true, true, true, false, false, false, false, false, false, false, false, false] rfl rfl (take_ofW HT_.out HW_.out (by kernel_rfl)) (fun _ _ _ h => h) (Or.inl ⟨by rfl, ?_⟩) hHeld ?_ ?_
        rotate_left
        · rintro w' ⟨s0, s1, s2, s3, s4, s5, s6, s7, s8, s9, s10, s11, s12, s13, s14⟩
          go_simp
          with_reducible rfl
        rotate_left
        · simp only [Act.put, List.setIfInBounds_toArray, List.set_cons_zero, List.set_cons_succ, i64_w, i32_w]
          rfl
        refine pure_ (i := 37) (N := some 124) (v := ?_) (a' := ?_) #[true, true, true, true, true, true, true, true, true, true, true, true, true, true, true, true, true, true, true, true, true, true, true, true, true, true, true, true, true, true, true, true, true, true, true, true, true, true, false, false, false, false, false, false, false, false] rfl rfl (any_of HT_.out (by kernel_rfl)) (fun _ _ _ h => h) (Or.inl ⟨by rfl, ?_⟩) ?_ ?_
        rotate_left
        · intro w'
          go_simp
          with_reducible rfl
        rotate_left
        · simp only [Act.put, List.setIfInBounds_toArray, List.set_cons_zero, List.set_cons_succ, i64_w, i32_w]
          rfl
        refine take_ (i := 38) (N := some 125) (v := ?_) (a' := ?_) #[true, true, true, true, true, true, true, true, true, true, true, true, true, true, true, true, true, true, true, true, true, true, true, true, true, true, true, true, true, true, true, true, true, true, true, true, true, true, true, false, false, false, false, false, false, false] rfl rfl (take_ofW HT_.out HW_.out (by kernel_rfl)) (fun _ _ _ h => h) (Or.inl ⟨by rfl, ?_⟩) hHeld ?_ ?_
        rotate_left
        · rintro w' ⟨s0, s1, s2, s3, s4, s5, s6, s7, s8, s9, s10, s11, s12, s13, s14⟩
          go_simp
          with_reducible rfl
        rotate_left
        · simp only [Act.put, List.setIfInBounds_toArray, List.set_cons_zero, List.set_cons_succ, i64_w, i32_w]
          rfl
        refine one_ (i := 39) (N := some 126) #[true, true, true, true, true, true, true, true, true, true, true, true, true, true, true, true, true, true, true, true, true, true, true, true, true, true, true, true, true, true, true, true, true, true, true, true, true, true, true, true, false, false, false, false, false, false] rfl rfl (one_of HT_.out (by kernel_rfl)) (by decide) (fun K hK => ?_)
        replace hK := Aside0.mk hK
        refine goes_ Try.func10 (by kernel_rfl) rfl #[.agg #[.slice P0 p0.length e0, .slice P1 p1.length e1, .slice P2 p2.length e2, .slice P3 p3.length e3, .slice P4 p4.length e4, .slice P5 p5.length e5], .string u, .string (⟨#[107]⟩ : ByteArray)] (by rfl) rfl rfl (by (try simp only [List.map_toArray, List.map_cons, List.map_nil]); first | done | rfl) ?_
        with_reducible refine (glob_In.calls k _ _ p0 _ _ p1 _ _ p2 _ _ p3 _ _ p4 _ _ p5 u (⟨#[107]⟩ : ByteArray) _ _ ?c0 ?d0 ?c1 ?d1 ?c2 ?d2 ?c3 ?d3 ?c4 ?d4 ?c5 ?d5 HIK.out).mono ?_
        (case c0 => exact Kd.C_below K0.out GD.out.hb)
        (case d0 => exact m0)
        (case c1 => exact Kd.C_below K1.out GD.out.hb)
        (case d1 => exact m1)
        (case c2 => exact Kd.C_below K2.out GD.out.hb)
        (case d2 => exact m2)
        (case c3 => exact Kd.C_below K3.out GD.out.hb)
        (case d3 => exact m3)
        (case c4 => exact Kd.C_below K4.out GD.out.hb)
        (case d4 => exact m4)
        (case c5 => exact Kd.C_below K5.out GD.out.hb)
        (case d5 => exact m5)
        rintro e w25 ⟨rfl, hb⟩
        refine ⟨_, rfl, ?_⟩
        replace GD := Aside0.mk (GD.out.below hb)
        replace QD := Aside0.mk (blk_below QD.out hb)
        replace ND := Aside0.mk (Kd.N_below (Kd.N_bound ND.out) hb)
        clear hb
        refine hK.out _ _ ⟨(GD.out.fp 0).trans rfl, (GD.out.fp 1).trans rfl, (GD.out.fp 2).trans rfl, (GD.out.fp 3).trans rfl, (GD.out.fp 4).trans rfl, (GD.out.fp 5).trans rfl, (GD.out.fa 1).trans rfl, (GD.out.fa 2).trans rfl, (GD.out.fa 3).trans rfl, (blk_cell QD.out 0).trans rfl, (blk_cell QD.out 1).trans rfl, (blk_cell QD.out 2).trans rfl, (blk_cell QD.out 3).trans rfl, (blk_cell QD.out 4).trans rfl, (blk_cell QD.out 5).trans rfl⟩ (fun hHeld => ?_)
        clear hK K
        refine norm_ (a' := ?_) ?_ ?_
        rotate_left
        · show Act.put _ (some 126) _ = _
          simp only [Act.put, List.setIfInBounds_toArray, List.set_cons_zero, List.set_cons_succ, i64_w, i32_w]
          rfl
        refine pure_ (i := 40) (N := some 127) (v := ?_) (a' := ?_) #[true, true, true, true, true, true, true, true, true, true, true, true, true, true, true, true, true, true, true, true, true, true, true, true, true, true, true, true, true, true, true, true, true, true, true, true, true, true, true, true, true, false, false, false, false, false] rfl rfl (any_of HT_.out (by kernel_rfl)) (fun _ _ _ h => h) (Or.inl ⟨by rfl, ?_⟩) ?_ ?_
        rotate_left
        · intro w'
          go_simp
          with_reducible rfl
        rotate_left
        · simp only [Act.put, List.setIfInBounds_toArray, List.set_cons_zero, List.set_cons_succ, i64_w, i32_w]
          rfl
        refine pure_ (i := 41) (N := some 128) (v := ?_) (a' := ?_) #[true, true, true, true, true, true, true, true, true, true, true, true, true, true, true, true, true, true, true, true, true, true, true, true, true, true, true, true, true, true, true, true, true, true, true, true, true, true, true, true, true, true, false, false, false, false] rfl rfl (any_of HT_.out (by kernel_rfl)) (fun _ _ _ h => h) (Or.inl ⟨by rfl, ?_⟩) ?_ ?_
        rotate_left
        · intro w'
          go_simp
          with_reducible rfl
        rotate_left
        · simp only [Act.put, List.setIfInBounds_toArray, List.set_cons_zero, List.set_cons_succ, i64_w, i32_w]
          rfl
        refine pure_ (i := 42) (N := some 129) (v := ?_) (a' := ?_) #[true, true, true, true, true, true, true, true, true, true, true, true, true, true, true, true, true, true, true, true, true, true, true, true, true, true, true, true, true, true, true, true, true, true, true, true, true, true, true, true, true, true, true, false, false, false] rfl rfl (any_of HT_.out (by kernel_rfl)) (fun _ _ _ h => h) (Or.inl ⟨by rfl, ?_⟩) ?_ ?_
        rotate_left
        · intro w'
          go_simp
          with_reducible rfl
        rotate_left
        · simp only [Act.put, List.setIfInBounds_toArray, List.set_cons_zero, List.set_cons_succ, i64_w, i32_w]
          rfl
        refine one_ (i := 43) (N := some 130) #[true, true, true, true, true, true, true, true, true, true, true, true, true, true, true, true, true, true, true, true, true, true, true, true, true, true, true, true, true, true, true, true, true, true, true, true, true, true, true, true, true, true, true, true, false, false] rfl rfl (one_of HT_.out (by kernel_rfl)) (by decide) (fun K hK => ?_)
        replace hK := Aside0.mk hK
        refine goes_ Try.func11 (by kernel_rfl) rfl #[] (by rfl) rfl rfl (by (try simp only [List.map_toArray, List.map_cons, List.map_nil]); first | done | rfl) ?_
        with_reducible refine (entaillaw24_awake.calls k true _ HAW.out).mono ?_
        rintro e w26 ⟨rfl, hb⟩
        refine ⟨_, rfl, ?_⟩
        replace GD := Aside0.mk (GD.out.below hb)
        replace QD := Aside0.mk (blk_below QD.out hb)
        replace ND := Aside0.mk (Kd.N_below (Kd.N_bound ND.out) hb)
        clear hb
        refine hK.out _ _ ⟨(GD.out.fp 0).trans rfl, (GD.out.fp 1).trans rfl, (GD.out.fp 2).trans rfl, (GD.out.fp 3).trans rfl, (GD.out.fp 4).trans rfl, (GD.out.fp 5).trans rfl, (GD.out.fa 1).trans rfl, (GD.out.fa 2).trans rfl, (GD.out.fa 3).trans rfl, (blk_cell QD.out 0).trans rfl, (blk_cell QD.out 1).trans rfl, (blk_cell QD.out 2).trans rfl, (blk_cell QD.out 3).trans rfl, (blk_cell QD.out 4).trans rfl, (blk_cell QD.out 5).trans rfl⟩ (fun hHeld => ?_)
        clear hK K
        refine norm_ (a' := ?_) ?_ ?_
        rotate_left
        · show Act.put _ (some 130) _ = _
          simp only [Act.put, List.setIfInBounds_toArray, List.set_cons_zero, List.set_cons_succ, i64_w, i32_w]
          rfl
        refine pure_ (i := 44) (N := some 131) (v := ?_) (a' := ?_) #[true, true, true, true, true, true, true, true, true, true, true, true, true, true, true, true, true, true, true, true, true, true, true, true, true, true, true, true, true, true, true, true, true, true, true, true, true, true, true, true, true, true, true, true, true, false] rfl rfl (any_of HT_.out (by kernel_rfl)) (fun _ _ _ h => h) (Or.inl ⟨by rfl, ?_⟩) ?_ ?_
        rotate_left
        · intro w'
          go_simp
          with_reducible rfl
        rotate_left
        · simp only [Act.put, List.setIfInBounds_toArray, List.set_cons_zero, List.set_cons_succ, i64_w, i32_w]
          rfl
        refine pure_ (i := 45) (N := some 4) (v := ?_) (a' := ?_) #[true, true, true, true, true, true, true, true, true, true, true, true, true, true, true, true, true, true, true, true, true, true, true, true, true, true, true, true, true, true, true, true, true, true, true, true, true, true, true, true, true, true, true, true, true, true] rfl rfl (any_of HT_.out (by kernel_rfl)) (fun _ _ _ h => h) (Or.inl ⟨by rfl, ?_⟩) ?_ ?_
        rotate_left
        · intro w'
          go_simp
          with_reducible rfl
        rotate_left
        · simp only [Act.put, List.setIfInBounds_toArray, List.set_cons_zero, List.set_cons_succ, i64_w, i32_w]
          rfl
        refine done_ (done_of HT_.out (by kernel_rfl)) ?_
        go_wp2
        go_ret
        exact ⟨rfl, below_step HB2.out GD.out.hb⟩
end Go.Proofs.Ytppndhbeglcioaa.GA
