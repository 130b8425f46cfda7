import Derived.Test.YtppndhbeglcioaaSm
namespace Go.Proofs.Ytppndhbeglcioaa.GA
open Go.RowKit Go.Proofs.YtppndhbeglcioaaW.PrintWords Go.Proofs.YtppndhbeglcioaaW.PrintLast Go.Proofs.YtppndhbeglcioaaW.PrintMore
set_option linter.unusedVariables false
set_option linter.unusedSimpArgs false
/-- The walk's world: the policy's box gb, the count's cell g. -/
structure Rl (w : World) (gb g : Nat) (cs : Array Value) (n : Int) (W : World) : Prop where
 hb : Below w.heap.size w W
 bk : W.heap[gb]? = some (.cells cs 28 (0, 0))
 bg : W.heap[g]? = some (.cells #[.int .i64 n] 3 (0, 0))
 g0 : w.heap.size ≤ gb
 g1 : w.heap.size ≤ g
 ne : gb ≠ g
variable {w W W' : World} {gb g : Nat} {cs : Array Value} {n n' : Int}
theorem Rl.below (h : Rl w gb g cs n W) (hb : Below W.heap.size W W') : Rl w gb g cs n W' :=
 ⟨below_step h.hb hb, blk_below h.bk hb, blk_below h.bg hb, h.g0, h.g1, h.ne⟩
theorem Rl.ks (h : Rl w gb g cs n W) (hg : W'.heap[g]? = some (.cells #[.int .i64 n'] 3 (0, 0))) (hk : Ks g W W') : Rl w gb g cs n' W' :=
 ⟨hk.below h.hb h.g1 (blk_lt h.bg), (hk.block gb (blk_lt h.bk) h.ne).trans h.bk, hg, h.g0, h.g1, h.ne⟩
theorem Rl.cell (h : Rl w gb g cs n W) {p : Addr} {v : Value} (hv : w.cell? p = some v) : W.cell? p = some v :=
 (h.hb.cell (World.block_lt_of_cell? w p hv)).trans hv
theorem Rl.row (h : Rl w gb g cs n W) {A : Option Addr} {m : Nat} {xs : List ByteArray} (hr : Kd.C Kd.string w A m xs) : Kd.F Kd.string W (fun k => k ≠ g) A m xs :=
 Kd.F_mono (Kd.F_below (Kd.C_F Kd.heap_string hr) h.hb) (fun k hk => by have := h.g1; omega)
theorem Rl.field (h : Rl w gb g cs n W) (i : Nat) : W.cell? ⟨gb, i, none⟩ = cs[i]? := blk_cell h.bk i
theorem Rl.set (h : Rl w gb g cs n W) {gt : Nat} (h1 : w.heap.size ≤ gt) (h2 : gt ≠ g) (h3 : gt ≠ gb) (i : Nat) (u : Value) : Rl w gb g cs n (W.setCell ⟨gt, i, none⟩ u) :=
 ⟨below_set h.hb h1, blk_far h.bk (fun e => h3 e.symm) _, blk_far h.bg (fun e => h2 e.symm) _, h.g0, h.g1, h.ne⟩
structure Rb (w : World) (gb g : Nat) (cs : Array Value) (gt : Nat) (ct : Array Value) (n : Int) (W : World) : Prop where
 r : Rl w gb g cs n W
 bt : W.heap[gt]? = some (.cells ct 34 (0, 0))
 ng : gt ≠ g
theorem Rb.below {gt : Nat} {ct : Array Value} (h : Rb w gb g cs gt ct n W) (hb : Below W.heap.size W W') : Rb w gb g cs gt ct n W' := ⟨h.r.below hb, blk_below h.bt hb, h.ng⟩
theorem Rb.ks {gt : Nat} {ct : Array Value} (h : Rb w gb g cs gt ct n W) (hg : W'.heap[g]? = some (.cells #[.int .i64 n'] 3 (0, 0))) (hk : Ks g W W') : Rb w gb g cs gt ct n' W' := ⟨h.r.ks hg hk, (hk.block gt (blk_lt h.bt) h.ng).trans h.bt, h.ng⟩
theorem Rb.field {gt : Nat} {ct : Array Value} (h : Rb w gb g cs gt ct n W) (i : Nat) : W.cell? ⟨gt, i, none⟩ = ct[i]? := blk_cell h.bt i
/-- A row of one text, just made: what the count of it says. -/
theorem count_one (A : Option Addr) (c : Nat) (x : ByteArray) (n : Int) (g : Nat) (w W : World) (hr : Kd.R Kd.string 9 W w.heap.size (fun k => w.heap.size ≤ k) (.slice A 1 c) [x]) (hlt : g < w.heap.size) (hg : W.heap[g]? = some (.cells #[.int .i64 n] 3 (0, 0))) :
  Calls Try.prog 28 #[.slice A 1 c, .pointer (some ⟨g, 0, none⟩)] W fun e w' => e = .returned (.tuple #[]) ∧ w'.heap[g]? = some (.cells #[.int .i64 (cnt n [x])] 3 (0, 0)) ∧ Ks g W w' :=
 count_lit A c [x] n g W (Kd.F_mono (Kd.R_F hr) (fun k hk => by omega)) (Kd.R_reads' hr).2.1 hg
def cntG (n : Int) (x : S36) : Int := cnt n ([x.f0] ++ x.f1)
def cntT (n : Int) (x : S34) : Int := cnt (cnt (cnt (cnt (cnt n [x.f0]) x.f2) x.f3) x.f4) x.f5
def cntU (n : Int) (x : S51) : Int := cnt (cnt (cnt n [x.f0]) x.f1) x.f2
def entaillaw23_Small.f (l0 l1 l2 : List ByteArray) (l3 : List S36) (l4 : List S34) (l5 : List S51) : Option Bool :=
 if 10 < (l3.length : Int) then some false else if 10 < (l4.length : Int) then some false else if 10 < (l5.length : Int) then some false else
  if l3.all (fun x => decide ((1 + x.f1.length) * 16 ≤ 140737488355328)) = true then some (decide (l5.foldl cntU (l4.foldl cntT (l3.foldl cntG (cnt (cnt (cnt 0 l0) l1) l2))) < 200)) else none
theorem goesC_ {P : Program} {ops : Array Oper} {Q : Exit → Act → World → Prop} {oi : Oper} {N : Option Tmp} {a : Act} {w : World} {K : Act → World → Prop} {f : FuncId} {fn : Func} {av lb : Array Value} {ar : Array Operand} {ts : Array TypeId} {c : Tmp} (hf : P.funcs[f]? = some fn) (hname : (fn.name == "runtime.NumGoroutine") = false) (hb : fn.body.isSome = true)
  (hw : Region.wanted oi (yielded ops a.tmps) = true) (hN : oi.dst = N) (hop : oi.op = .call { callee := .value (.tmp c), args := ar, argTypes := ts }) (hcal : a.eval (.tmp c) = .func (.func f) #[] lb) (hargs : ar.map a.eval = av)
  (h : Calls P f (av ++ lb) w fun e w' => ∃ v, e = .returned v ∧ K (a.put N v) w') : if Region.wanted oi (yielded ops a.tmps) = true then Oper.wp P oi a w K Q else K (a.put N undef) w := by
 refine call_ f (av ++ lb) hw hN ?_ h
 have he := enters_ hf hname hb (av ++ lb) w
 unfold execOp
 simp [hop, resolve, Deferred.ofValue, invoke, hcal, hargs, he]
def entaillaw23_Small.T11 : Bool × List (List Nat × List Nat) := (true, [([], []), ([], []), ([1], [1]), ([], []), ([2, 3], [2, 3]), ([4], [4]), ([5], [5]), ([6], [6]), ([], []), ([8], [8]), ([], []), ([9, 10], [9, 10]), ([11], [11]), ([12], [12]), ([7, 13], [7, 13]), ([0, 14, 14], [0, 14])])
def entaillaw23_Small.B11 : List Nat := [0, 0, 2, 0, 14, 30, 62, 126, 0, 256, 0, 1792, 3840, 7936, 16382, 32767]
theorem entaillaw23_Small.tab11 : rtab .any (opsOf Try.f12 11) = entaillaw23_Small.T11 := by kernel_rfl
theorem entaillaw23_Small.bits11 : waitsOk entaillaw23_Small.T11.2 entaillaw23_Small.B11 = true := by kernel_rfl

set_option maxRecDepth 100000 in
set_option maxHeartbeats 2000000 in
theorem entaillaw23_Small.calls (A0 : Option Addr) (c0 : Nat) (l0 : List ByteArray) (A1 : Option Addr) (c1 : Nat) (l1 : List ByteArray) (A2 : Option Addr) (c2 : Nat) (l2 : List ByteArray) (A3 : Option Addr) (c3 : Nat) (l3 : List S36) (A4 : Option Addr) (c4 : Nat) (l4 : List S34) (A5 : Option Addr) (c5 : Nat) (l5 : List S51) (r : Bool) (w : World)
  (hr0 : Kd.C Kd.string w A0 l0.length l0) (hc0 : l0.length ≤ c0) (hr1 : Kd.C Kd.string w A1 l1.length l1) (hc1 : l1.length ≤ c1) (hr2 : Kd.C Kd.string w A2 l2.length l2) (hc2 : l2.length ≤ c2)
  (hr3 : Kd.C k36 w A3 l3.length l3) (hc3 : l3.length ≤ c3) (hr4 : Kd.C k34 w A4 l4.length l4) (hc4 : l4.length ≤ c4) (hr5 : Kd.C k51 w A5 l5.length l5) (hc5 : l5.length ≤ c5) (h : entaillaw23_Small.f l0 l1 l2 l3 l4 l5 = some r) :
  Calls Try.prog 12 #[.agg #[.slice A0 l0.length c0, .slice A1 l1.length c1, .slice A2 l2.length c2, .slice A3 l3.length c3, .slice A4 l4.length c4, .slice A5 l5.length c5]] w fun e w' => e = .returned (.bool r) ∧ Below w.heap.size w w' := by
 have hu28 := Try.underlying28
 have hu36 := Try.underlying36
 have hu51 := Try.underlying51
 have hu34 := Try.underlying34
 have HR0 := Aside0.mk hr0
 have HR1 := Aside0.mk hr1
 have HR2 := Aside0.mk hr2
 have HR3 := Aside0.mk hr3
 have HR4 := Aside0.mk hr4
 have HR5 := Aside0.mk hr5
 have HB := Aside0.mk (Below.refl w.heap.size w)
 have hbig3 := hr3.2.1
 have hbig4 := hr4.2.1
 have hbig5 := hr5.2.1
 clear hr0 hr1 hr2 hr3 hr4 hr5
 have H := Aside0.mk h
 clear h
 obtain ⟨cs, hcs⟩ : ∃ cs : Array Value, cs = #[.slice A0 l0.length c0, .slice A1 l1.length c1, .slice A2 l2.length c2, .slice A3 l3.length c3, .slice A4 l4.length c4, .slice A5 l5.length c5] := ⟨_, rfl⟩
 go_enter Try.func12, Try.ntmps12
 go_upto_region 1 with (first | ((with_reducible refine gate_dst (N := 1) rfl ?_); refine box_event ?hg (N := 1) ?hd (cs := #[.slice A0 l0.length c0, .slice A1 l1.length c1, .slice A2 l2.length c2, .slice A3 l3.length c3, .slice A4 l4.length c4, .slice A5 l5.length c5]) (t := 28) ?hr ?_; (case hd => rfl); (case hg => rfl); (case hr => first | (go_simp; done) | (go_simp; rfl)); intro gb hg w1 hbox hb; have B1 := Aside0.mk (below_step HB.out hb); have BK := Aside0.mk hbox; have GB := Aside0.mk ((by rw [hg]; exact Nat.le_refl _) : w.heap.size ≤ gb); clear hg hbox hb HB))
 go_upto_region 2 with (first | ((with_reducible refine gate_dst (N := 3) rfl ?_); refine box_event ?hg (N := 3) ?hd (cs := #[.int .i64 0]) (t := 3) ?hr ?_; (case hd => rfl); (case hg => rfl); (case hr => first | (go_simp; done) | (go_simp; rfl)); intro g hg w2 hbox hb; have B2 := Aside0.mk (below_step B1.out hb); have BK2 := Aside0.mk (blk_below BK.out hb); have BG := Aside0.mk hbox; have GG := Aside0.mk ((by rw [hg]; exact below_size B1.out) : w.heap.size ≤ g); have GN := Aside0.mk ((by rw [hg]; exact Nat.ne_of_lt (blk_lt BK.out)) : gb ≠ g); clear hg hbox hb BK B1; have hcz : w2.cell? ⟨g, 0, none⟩ = some (.int .i64 0) := (blk_cell BG.out 0).trans rfl; have hfz := blk_frozen BG.out 0))
 have R0 := Aside0.mk (show Rl w gb g cs 0 (w2.setCell ⟨g, 0, none⟩ (.int .i64 0)) from ⟨below_set B2.out GG.out, by rw [hcs]; exact blk_far BK2.out GN.out _, blk_put BG.out 0 _ rfl, GB.out, GG.out, GN.out⟩)
 have e0 : cs[0]? = some (.slice A0 l0.length c0) := by rw [hcs]; rfl
 have e1 : cs[1]? = some (.slice A1 l1.length c1) := by rw [hcs]; rfl
 have e2 : cs[2]? = some (.slice A2 l2.length c2) := by rw [hcs]; rfl
 have e3 : cs[3]? = some (.slice A3 l3.length c3) := by rw [hcs]; rfl
 have e4 : cs[4]? = some (.slice A4 l4.length c4) := by rw [hcs]; rfl
 have e5 : cs[5]? = some (.slice A5 l5.length c5) := by rw [hcs]; rfl
 have E0 := Aside0.mk e0
 have E1 := Aside0.mk e1
 have E2 := Aside0.mk e2
 have E3 := Aside0.mk e3
 have E4 := Aside0.mk e4
 have E5 := Aside0.mk e5
 clear e0 e1 e2 e3 e4 e5 hcs BK2 BG B2 hcz hfz GN GG GB
 generalize w2.setCell ⟨g, 0, none⟩ (.int .i64 0) = w3 at R0 ⊢
 have f3 := (R0.out.field 3).trans E3.out
 have f4 := (R0.out.field 4).trans E4.out
 have f5 := (R0.out.field 5).trans E5.out
 by_cases d3 : 10 < (l3.length : Int)
 ·obtain rfl : false = r := by have := H.out; unfold entaillaw23_Small.f at this; rw [if_pos d3] at this; exact Option.some.inj this
  go_wp2
  go_ret
  exact ⟨rfl, R0.out.hb⟩
 by_cases d4 : 10 < (l4.length : Int)
 ·obtain rfl : false = r := by have := H.out; unfold entaillaw23_Small.f at this; rw [if_neg d3, if_pos d4] at this; exact Option.some.inj this
  go_wp2
  go_ret
  exact ⟨rfl, R0.out.hb⟩
 by_cases d5 : 10 < (l5.length : Int)
 ·obtain rfl : false = r := by have := H.out; unfold entaillaw23_Small.f at this; rw [if_neg d3, if_neg d4, if_pos d5] at this; exact Option.some.inj this
  go_wp2
  go_ret
  exact ⟨rfl, R0.out.hb⟩
 obtain ⟨hall, hfin⟩ : (∀ x ∈ l3, (1 + x.f1.length) * 16 ≤ 140737488355328) ∧ decide (l5.foldl cntU (l4.foldl cntT (l3.foldl cntG (cnt (cnt (cnt 0 l0) l1) l2))) < 200) = r := by
  have := H.out
  unfold entaillaw23_Small.f at this
  rw [if_neg d3, if_neg d4, if_neg d5] at this
  split at this
  ·rename_i ha
   exact ⟨fun x hx => of_decide_eq_true (List.all_eq_true.1 ha x hx), Option.some.inj this⟩
  ·cases this
 clear H
 go_upto_region 5 with (fail)
 have f0 := (R0.out.field 0).trans E0.out
 have C0 := Aside0.mk (count_lit A0 c0 l0 _ g w3 (R0.out.row HR0.out) hc0 R0.out.bg)
 go_upto_region 6 with (go_at_call 28; with_reducible refine C0.out.mono ?_; rintro e w4 ⟨rfl, hg4, hk4⟩; have R1 := Aside0.mk (R0.out.ks hg4 hk4); clear hg4 hk4)
 clear C0 R0 f0 f3 f4 f5
 have f1 := (R1.out.field 1).trans E1.out
 have C0 := Aside0.mk (count_lit A1 c1 l1 _ g w4 (R1.out.row HR1.out) hc1 R1.out.bg)
 go_upto_region 7 with (go_at_call 28; with_reducible refine C0.out.mono ?_; rintro e w5 ⟨rfl, hg4, hk4⟩; have R2 := Aside0.mk (R1.out.ks hg4 hk4); clear hg4 hk4)
 clear C0 R1 f1
 have f2 := (R2.out.field 2).trans E2.out
 have C0 := Aside0.mk (count_lit A2 c2 l2 _ g w5 (R2.out.row HR2.out) hc2 R2.out.bg)
 go_upto_region 8 with (go_at_call 28; with_reducible refine C0.out.mono ?_; rintro e w6 ⟨rfl, hg4, hk4⟩; have R3 := Aside0.mk (R2.out.ks hg4 hk4); clear hg4 hk4)
 clear C0 R2 f2
 obtain ⟨n1, hn1⟩ : ∃ n1, n1 = cnt (cnt (cnt 0 l0) l1) l2 := ⟨_, rfl⟩
 rw [← hn1] at R3
 go_wp2
 go_loopg [5] l3.length (fun gg s5 wr => ∃ kk : Nat, kk ≤ l3.length ∧ l3.length - kk ≤ gg ∧ s5 = .int .i64 kk ∧ Aside0 (Rl w gb g cs ((l3.take kk).foldl cntG n1) wr))
 case atStart => exact ⟨0, Nat.zero_le _, by omega, rfl, R3⟩
 case round =>
  obtain ⟨kk, hkk, hgk, rfl, RR⟩ := hrel
  have f3 := (RR.out.field 3).trans E3.out
  by_cases hlt : kk < l3.length
  ·have hltz : (kk : Int) < (l3.length : Int) := by omega
   have p101 : (0 ≤ (kk : Int)) = True := eq_true (by omega)
   have q101 : ((kk : Int) < (l3.length : Int)) = True := eq_true hltz
   obtain ⟨ad, A6, c6, rfl, hx0, hx1, hl1, hi1⟩ := at_T36 HR3.out (kk : Int) (by omega) hltz
   have hy : rd_T36 l3 (kk : Int) = l3[kk] := by
    unfold rd_T36
    rw [Int.toNat_natCast, List.getD_eq_getElem?_getD, List.getElem?_eq_getElem hlt]; rfl
   rw [hy] at hx0 hx1 hl1 hi1
   rw [Int.toNat_natCast] at hx0 hx1
   have hx := Aside0.mk (rfl : l3[kk] = l3[kk])
   obtain ⟨x, hxx⟩ : ∃ x, x = l3[kk] := ⟨_, rfl⟩
   rw [← hxx] at hx0 hx1 hl1 hi1
   have HX := Aside0.mk hxx
   have HI := Aside0.mk hi1
   clear hi1 hx hy hxx
   go_wp2
   refine start_ (n := 16) (S := fun w' => w'.cell? ⟨gb, 3, none⟩ = some (.slice (some ad) l3.length c3) ∧ w'.cell? (ad.add (kk * 2)) = some (.string x.f0) ∧ w'.cell? ⟨(ad.add (kk * 2)).block, (ad.add (kk * 2)).off + 1, none⟩ = some (.slice A6 x.f1.length c6)) (ds := []) #[false, false, false, false, false, false, false, false, false, false, false, false, false, false, false, false] (by kernel_rfl) rfl rfl ⟨f3, RR.out.cell hx0, RR.out.cell hx1⟩ (fun hHeld => ?_); refine with_tabW entaillaw23_Small.tab11 entaillaw23_Small.bits11 (fun HT_ HW_ => ?_)
   have RD := Aside0.mk (RR.out.below (below_drew1 (Below.refl _ _)))
   generalize wr.drew = w7 at RD hHeld ⊢
   clear f3 RR
   refine pure_ (i := 0) (N := some 45) (v := ?_) (a' := ?_) #[true, false, false, false, false, false, false, false, false, false, false, false, false, false, false, false] rfl rfl (any_of HT_.out (by kernel_rfl)) (fun _ _ _ h => h) (Or.inl ⟨by rfl, ?_⟩) ?_ ?_
   rotate_left
   ·intro w'
    go_simp
    with_reducible rfl
   rotate_left
   ·simp only [Act.put, List.setIfInBounds_toArray, List.set_cons_zero, List.set_cons_succ, i64_w, i32_w]
    rfl
   refine pure_ (i := 1) (N := some 46) (v := ?_) (a' := ?_) #[true, true, false, false, false, false, false, false, false, false, false, false, false, false, false, false] rfl rfl (any_of HT_.out (by kernel_rfl)) (fun _ _ _ h => h) (Or.inl ⟨by rfl, ?_⟩) ?_ ?_
   rotate_left
   ·intro w'
    go_simp
    with_reducible rfl
   rotate_left
   ·simp only [Act.put, List.setIfInBounds_toArray, List.set_cons_zero, List.set_cons_succ, i64_w, i32_w]
    rfl
   refine pure_ (i := 3) (N := some 48) (v := ?_) (a' := ?_) #[true, true, false, true, false, false, false, false, false, false, false, false, false, false, false, false] rfl rfl (any_of HT_.out (by kernel_rfl)) (fun _ _ _ h => h) (Or.inl ⟨by rfl, ?_⟩) ?_ ?_
   rotate_left
   ·intro w'
    go_simp
    with_reducible rfl
   rotate_left
   ·simp only [Act.put, List.setIfInBounds_toArray, List.set_cons_zero, List.set_cons_succ, i64_w, i32_w]
    rfl
   refine pure_ (i := 8) (N := some 53) (v := ?_) (a' := ?_) #[true, true, false, true, false, false, false, false, true, false, false, false, false, false, false, false] rfl rfl (any_of HT_.out (by kernel_rfl)) (fun _ _ _ h => h) (Or.inl ⟨by rfl, ?_⟩) ?_ ?_
   rotate_left
   ·intro w'
    go_simp
    with_reducible rfl
   rotate_left
   ·simp only [Act.put, List.setIfInBounds_toArray, List.set_cons_zero, List.set_cons_succ, i64_w, i32_w]
    rfl
   refine pure_ (i := 10) (N := some 55) (v := ?_) (a' := ?_) #[true, true, false, true, false, false, false, false, true, false, true, false, false, false, false, false] rfl rfl (any_of HT_.out (by kernel_rfl)) (fun _ _ _ h => h) (Or.inl ⟨by rfl, ?_⟩) ?_ ?_
   rotate_left
   ·intro w'
    go_simp
    with_reducible rfl
   rotate_left
   ·simp only [Act.put, List.setIfInBounds_toArray, List.set_cons_zero, List.set_cons_succ, i64_w, i32_w]
    rfl
   refine take_ (i := 2) (N := some 47) (v := ?_) (a' := ?_) #[true, true, true, true, false, false, false, false, true, false, true, false, false, false, false, false] rfl rfl (take_ofW HT_.out HW_.out (by kernel_rfl)) (fun _ _ _ h => h) (Or.inl ⟨by rfl, ?_⟩) hHeld ?_ ?_
   rotate_left
   ·rintro w' ⟨s0, s1, s2⟩
    go_simp
    with_reducible rfl
   rotate_left
   ·simp only [Act.put, List.setIfInBounds_toArray, List.set_cons_zero, List.set_cons_succ, i64_w, i32_w]
    rfl
   refine take_ (i := 9) (N := some 54) (v := ?_) (a' := ?_) #[true, true, true, true, false, false, false, false, true, true, true, false, false, false, false, false] rfl rfl (take_ofW HT_.out HW_.out (by kernel_rfl)) (fun _ _ _ h => h) (Or.inl ⟨by rfl, ?_⟩) hHeld ?_ ?_
   rotate_left
   ·rintro w' ⟨s0, s1, s2⟩
    go_simp
    with_reducible rfl
   rotate_left
   ·simp only [Act.put, List.setIfInBounds_toArray, List.set_cons_zero, List.set_cons_succ, i64_w, i32_w]
    rfl
   refine pure_ (i := 4) (N := some 49) (v := ?_) (a' := ?_) #[true, true, true, true, true, false, false, false, true, true, true, false, false, false, false, false] rfl rfl (any_of HT_.out (by kernel_rfl)) (fun _ _ _ h => h) (Or.inl ⟨by rfl, ?_⟩) ?_ ?_
   rotate_left
   ·intro w'
    go_simp
    with_reducible rfl
   rotate_left
   ·simp only [Act.put, List.setIfInBounds_toArray, List.set_cons_zero, List.set_cons_succ, i64_w, i32_w]
    rfl
   refine pure_ (i := 5) (N := some 50) (v := ?_) (a' := ?_) #[true, true, true, true, true, true, false, false, true, true, true, false, false, false, false, false] rfl rfl (any_of HT_.out (by kernel_rfl)) (fun _ _ _ h => h) (Or.inl ⟨by rfl, ?_⟩) ?_ ?_
   rotate_left
   ·intro w'
    go_simp
    with_reducible rfl
   rotate_left
   ·simp only [Act.put, List.setIfInBounds_toArray, List.set_cons_zero, List.set_cons_succ, i64_w, i32_w]
    rfl
   refine take_ (i := 6) (N := some 51) (v := ?_) (a' := ?_) #[true, true, true, true, true, true, true, false, true, true, true, false, false, false, false, false] rfl rfl (take_ofW HT_.out HW_.out (by kernel_rfl)) (fun _ _ _ h => h) (Or.inl ⟨by rfl, ?_⟩) hHeld ?_ ?_
   rotate_left
   ·rintro w' ⟨s0, s1, s2⟩
    go_simp
    with_reducible rfl
   rotate_left
   ·simp only [Act.put, List.setIfInBounds_toArray, List.set_cons_zero, List.set_cons_succ, i64_w, i32_w]
    rfl
   refine pure_ (i := 11) (N := some 56) (v := ?_) (a' := ?_) #[true, true, true, true, true, true, true, false, true, true, true, true, false, false, false, false] rfl rfl (any_of HT_.out (by kernel_rfl)) (fun _ _ _ h => h) (Or.inl ⟨by rfl, ?_⟩) ?_ ?_
   rotate_left
   ·intro w'
    go_simp
    with_reducible rfl
   rotate_left
   ·simp only [Act.put, List.setIfInBounds_toArray, List.set_cons_zero, List.set_cons_succ, i64_w, i32_w]
    rfl
   refine pure_ (i := 12) (N := some 57) (v := ?_) (a' := ?_) #[true, true, true, true, true, true, true, false, true, true, true, true, true, false, false, false] rfl rfl (any_of HT_.out (by kernel_rfl)) (fun _ _ _ h => h) (Or.inl ⟨by rfl, ?_⟩) ?_ ?_
   rotate_left
   ·intro w'
    go_simp
    with_reducible rfl
   rotate_left
   ·simp only [Act.put, List.setIfInBounds_toArray, List.set_cons_zero, List.set_cons_succ, i64_w, i32_w]
    rfl
   refine take_ (i := 13) (N := some 58) (v := ?_) (a' := ?_) #[true, true, true, true, true, true, true, false, true, true, true, true, true, true, false, false] rfl rfl (take_ofW HT_.out HW_.out (by kernel_rfl)) (fun _ _ _ h => h) (Or.inl ⟨by rfl, ?_⟩) hHeld ?_ ?_
   rotate_left
   ·rintro w' ⟨s0, s1, s2⟩
    go_simp
    with_reducible rfl
   rotate_left
   ·simp only [Act.put, List.setIfInBounds_toArray, List.set_cons_zero, List.set_cons_succ, i64_w, i32_w]
    rfl
   refine one_ (i := 7) (N := some 52) #[true, true, true, true, true, true, true, true, true, true, true, true, true, true, false, false] rfl rfl (one_of HT_.out (by kernel_rfl)) (by decide) (fun K hK => ?_)
   have hK := Aside0.mk hK
   refine Kd.R_lit_step Kd.string _ 9 ?hg (N := 52) ?hd (xs := ([x.f0] : List ByteArray)) (inner := [.string x.f0]) (ok := fun k => w7.heap.size ≤ k) (okp := fun k => w7.heap.size ≤ k) ?hr ?hp (fun _ hk => hk) (Nat.le_refl _) (Below.refl _ _) (Nat.le_refl _) (by simp) ?_; (case hd => rfl); (case hg => rfl); (case hr => first | (go_simp; done) | (go_simp; rfl)); (case hp => exact (Reps.one (show Kd.M Kd.string _ _ _ x.f0 [.string x.f0] from rfl) (Reps.none _ _)))
   intro v8 w8 ho8 hb8 hg8 hn8
   have RE := Aside0.mk (RD.out.below hb8)
   have HO8 := Aside0.mk ho8
   have HB8 := Aside0.mk hb8
   refine hK.out _ _ ⟨(hb8.cell (World.block_lt_of_cell? _ _ hHeld.1)).trans hHeld.1, RE.out.cell hx0, RE.out.cell hx1⟩ (fun hHeld => ?_)
   clear hK hg8 hn8 hb8 ho8
   refine norm_ (a' := ?_) ?_ ?_
   rotate_left
   ·show Act.put _ (some 52) _ = _
    simp only [Act.put, List.setIfInBounds_toArray, List.set_cons_zero, List.set_cons_succ, i64_w, i32_w]
    rfl
   refine one_ (i := 14) (N := some 59) #[true, true, true, true, true, true, true, true, true, true, true, true, true, true, true, false] rfl rfl (one_of HT_.out (by kernel_rfl)) (by decide) (fun K hK => ?_)
   have hK := Aside0.mk hK
   have hLx : (1 + x.f1.length) * 16 ≤ 140737488355328 := hall x (by rw [HX.out]; exact List.getElem_mem _)
   refine Kd.R_append_rows_step Kd.string (w0 := w7) w7.heap.size (by rfl) (.tmp 52) (.tmp 58) 23 9 (.string ⟨#[]⟩) 16 rfl Try.underlying23 info9 rfl (by decide) (by omega) v8 [x.f0] x.f1 _ _ _ (fun k => w7.heap.size ≤ k) (fun _ => False) rfl rfl ?aO ?aR (fun _ _ h => h) (fun _ h => h.elim) ?aF ?aB ?aS ?aL ?_
   (case aR => exact Kd.C_below HI.out RE.out.hb)
   (case aB => exact HB8.out)
   (case aF => exact fun k hk => Nat.le_trans HB8.out.size hk)
   (case aO => exact HO8.out)
   (case aS => exact HB8.out.size)
   (case aL => simp only [List.length_cons, List.length_nil]; omega)
   intro v9 w9n ho9 hb9 hg9 hat9
   have RF := Aside0.mk (RD.out.below hb9)
   refine hK.out _ _ ⟨RF.out.field 3 |>.trans E3.out, RF.out.cell hx0, RF.out.cell hx1⟩ (fun hHeld => ?_)
   obtain ⟨A9, c9, rfl⟩ := Kd.R_slice ho9
   have HC := Aside0.mk (count_lit A9 c9 ([x.f0] ++ x.f1) _ g w9n (Kd.F_mono (Kd.R_F ho9) (fun k hk => by have := blk_lt RD.out.bg; omega)) (Kd.R_reads' ho9).2.1 RF.out.bg)
   clear hK hg9 hat9 hb9 ho9 HO8 HB8 RE RD
   refine norm_ (a' := ?_) ?_ ?_
   rotate_left
   ·show Act.put _ (some 59) _ = _
    simp only [Act.put, List.setIfInBounds_toArray, List.set_cons_zero, List.set_cons_succ, i64_w, i32_w]
    rfl
   refine one_ (i := 15) (N := some 60) #[true, true, true, true, true, true, true, true, true, true, true, true, true, true, true, true] rfl rfl (one_of HT_.out (by kernel_rfl)) (by decide) (fun K hK => ?_)
   have hK := Aside0.mk hK
   refine goesC_ (c := 45) (lb := #[.pointer (some ⟨g, 0, none⟩)]) (av := #[.slice A9 ([x.f0] ++ x.f1).length c9]) Try.func28 (by kernel_rfl) rfl (by rfl) rfl rfl rfl (by (try simp only [List.map_toArray, List.map_cons, List.map_nil]); first | done | rfl) ?_
   refine HC.out.mono ?_
   rintro e w10 ⟨rfl, hg4, hk4⟩
   have RG := Aside0.mk (RF.out.ks hg4 hk4)
   refine ⟨_, rfl, hK.out _ _ ⟨RG.out.field 3 |>.trans E3.out, RG.out.cell hx0, RG.out.cell hx1⟩ (fun hHeld => ?_)⟩
   refine done_ (done_of HT_.out (by kernel_rfl)) ?_
   go_wp2
   go_roundg (l3.length - (kk + 1))
   case measure => omega
   case rel =>
    refine ⟨kk + 1, by omega, by omega, by go_num, ⟨?_⟩⟩
    have e : (l3.take (kk + 1)).foldl cntG n1 = cnt ((l3.take kk).foldl cntG n1) ([x.f0] ++ x.f1) := by rw [List.take_succ_eq_append_getElem hlt, List.foldl_append, HX.out]; rfl
    rw [e]
    exact RG.out
  ·have hltz : ¬ (kk : Int) < (l3.length : Int) := by omega
   obtain rfl : kk = l3.length := by omega
   have R4 := RR
   rw [List.take_length] at R4
   clear RR R3
   obtain ⟨n2, hn2⟩ : ∃ n2, n2 = l3.foldl cntG n1 := ⟨_, rfl⟩
   rw [← hn2] at R4
   go_wp2
   go_loopg [6] l4.length (fun gg s6 wr => ∃ kk : Nat, kk ≤ l4.length ∧ l4.length - kk ≤ gg ∧ s6 = .int .i64 kk ∧ Aside0 (Rl w gb g cs ((l4.take kk).foldl cntT n2) wr))
   case atStart => exact ⟨0, Nat.zero_le _, by omega, rfl, R4⟩
   case round =>
    clear R4 f3
    obtain ⟨kk, hkk, hgk, rfl, RR⟩ := hrel
    have f4 := (RR.out.field 4).trans E4.out
    by_cases hlt : kk < l4.length
    ·have hltz : (kk : Int) < (l4.length : Int) := by omega
     have p101 : (0 ≤ (kk : Int)) = True := eq_true (by omega)
     have q101 : ((kk : Int) < (l4.length : Int)) = True := eq_true hltz
     obtain ⟨ad, A6, c6, A7, c7, A8, c8, A9, c9, rfl, hx0, hx1, hx2, hx3, hx4, hx5, hl2, hi2, hl3, hi3, hl4, hi4, hl5, hi5⟩ := at_T34 HR4.out (kk : Int) (by omega) hltz
     have hy : rd_T34 l4 (kk : Int) = l4[kk] := by
      unfold rd_T34
      rw [Int.toNat_natCast, List.getD_eq_getElem?_getD, List.getElem?_eq_getElem hlt]; rfl
     rw [hy] at hx0 hx1 hx2 hx3 hx4 hx5 hl2 hi2 hl3 hi3 hl4 hi4 hl5 hi5
     rw [Int.toNat_natCast] at hx0 hx1 hx2 hx3 hx4 hx5
     obtain ⟨x, hxx⟩ : ∃ x, x = l4[kk] := ⟨_, rfl⟩
     rw [← hxx] at hx0 hx1 hx2 hx3 hx4 hx5 hl2 hi2 hl3 hi3 hl4 hi4 hl5 hi5
     have HX := Aside0.mk hxx
     have HI2 := Aside0.mk hi2
     have HI3 := Aside0.mk hi3
     have HI4 := Aside0.mk hi4
     have HI5 := Aside0.mk hi5
     have HL2 := Aside0.mk hl2
     have HL3 := Aside0.mk hl3
     have HL4 := Aside0.mk hl4
     have HL5 := Aside0.mk hl5
     clear hi2 hi3 hi4 hi5 hl2 hl3 hl4 hl5 hy hxx
     go_upto_region 15 with (fail)
     have y0 := RR.out.cell hx0
     have y1 := RR.out.cell hx1
     have y2 := RR.out.cell hx2
     have y3 := RR.out.cell hx3
     have y4 := RR.out.cell hx4
     have y5 := RR.out.cell hx5
     clear hx0 hx1 hx2 hx3 hx4 hx5
     go_upto_region 16 with (first | ((with_reducible refine gate_dst (N := 7) rfl ?_); refine box_event ?hg (N := 7) ?hd (cs := #[.string (⟨#[]⟩ : ByteArray), .bool false, .slice none 0 0, .slice none 0 0, .slice none 0 0, .slice none 0 0]) (t := 34) ?hr ?_; (case hd => rfl); (case hg => rfl); (case hr => first | (go_simp; done) | (go_simp; rfl)); intro gt hg w7 hbox hb; have RD := Aside0.mk (RR.out.below hb); have BK := Aside0.mk hbox; have NG := Aside0.mk ((by rw [hg]; exact Nat.ne_of_gt (blk_lt RR.out.bg)) : gt ≠ g); have NB := Aside0.mk ((by rw [hg]; exact Nat.ne_of_gt (blk_lt RR.out.bk)) : gt ≠ gb); have GT := Aside0.mk ((by rw [hg]; exact RR.out.hb.size) : w.heap.size ≤ gt); clear RR hb hbox hg; have hcz0 : w7.cell? ⟨gt, 0, none⟩ = some (.string (⟨#[]⟩ : ByteArray)) := (blk_cell BK.out 0).trans rfl; have hcz1 : w7.cell? ⟨gt, 1, none⟩ = some (.bool false) := (blk_cell BK.out 1).trans rfl; have hcz2 : w7.cell? ⟨gt, 2, none⟩ = some (.slice none 0 0) := (blk_cell BK.out 2).trans rfl; have hcz3 : w7.cell? ⟨gt, 3, none⟩ = some (.slice none 0 0) := (blk_cell BK.out 3).trans rfl; have hcz4 : w7.cell? ⟨gt, 4, none⟩ = some (.slice none 0 0) := (blk_cell BK.out 4).trans rfl; have hcz5 : w7.cell? ⟨gt, 5, none⟩ = some (.slice none 0 0) := (blk_cell BK.out 5).trans rfl; have hfz0 := blk_frozen BK.out 0; have hfz1 := blk_frozen BK.out 1; have hfz2 := blk_frozen BK.out 2; have hfz3 := blk_frozen BK.out 3; have hfz4 := blk_frozen BK.out 4; have hfz5 := blk_frozen BK.out 5))
     have RT := Aside0.mk (show Rb w gb g cs gt #[.string x.f0, .bool x.f1, .slice A6 x.f2.length c6, .slice A7 x.f3.length c7, .slice A8 x.f4.length c8, .slice A9 x.f5.length c9] _ ((((((w7.setCell ⟨gt, 0, none⟩ (.string x.f0)).setCell ⟨gt, 1, none⟩ (.bool x.f1)).setCell ⟨gt, 2, none⟩ (.slice A6 x.f2.length c6)).setCell ⟨gt, 3, none⟩ (.slice A7 x.f3.length c7)).setCell ⟨gt, 4, none⟩ (.slice A8 x.f4.length c8)).setCell ⟨gt, 5, none⟩ (.slice A9 x.f5.length c9)) from ⟨(((((RD.out.set GT.out NG.out NB.out 0 _).set GT.out NG.out NB.out 1 _).set GT.out NG.out NB.out 2 _).set GT.out NG.out NB.out 3 _).set GT.out NG.out NB.out 4 _).set GT.out NG.out NB.out 5 _, blk_put (blk_put (blk_put (blk_put (blk_put (blk_put BK.out 0 _ rfl) 1 _ rfl) 2 _ rfl) 3 _ rfl) 4 _ rfl) 5 _ rfl, NG.out⟩)
     generalize ((((((w7.setCell ⟨gt, 0, none⟩ (.string x.f0)).setCell ⟨gt, 1, none⟩ (.bool x.f1)).setCell ⟨gt, 2, none⟩ (.slice A6 x.f2.length c6)).setCell ⟨gt, 3, none⟩ (.slice A7 x.f3.length c7)).setCell ⟨gt, 4, none⟩ (.slice A8 x.f4.length c8)).setCell ⟨gt, 5, none⟩ (.slice A9 x.f5.length c9)) = w8 at RT ⊢
     clear hcz0 hcz1 hcz2 hcz3 hcz4 hcz5 hfz0 hfz1 hfz2 hfz3 hfz4 hfz5 y0 y1 y2 y3 y4 y5 f4 RD BK GT NG NB
     have z0 : w8.cell? ⟨gt, 0, none⟩ = some (.string x.f0) := (RT.out.field 0).trans rfl
     go_upto_region 17 with (first | ((with_reducible refine gate_dst (N := 76) rfl ?_); (try (refine gate_guard (by rfl) ?_; dsimp only)); refine Kd.R_lit Kd.string _ 9 ?hg (N := 76) ?hd (xs := ([x.f0] : List ByteArray)) (inner := [.string x.f0]) (ok := fun k => w8.heap.size ≤ k) (okp := fun k => w8.heap.size ≤ k) ?hr ?hp (fun _ hk => hk) (Nat.le_refl _) (Below.refl _ _) (Nat.le_refl _) (by simp) ?_; (case hd => rfl); (case hg => rfl); (case hr => first | (go_simp; done) | (go_simp; rfl)); (case hp => exact (Reps.one (show Kd.M Kd.string _ _ _ x.f0 [.string x.f0] from rfl) (Reps.none _ _))); intro v9n w9an ho hb hg_ hn_; have RU9n := Aside0.mk (RT.out.below hb); obtain ⟨A9n, c9n, e9n⟩ := Kd.R_slice ho; rw [show ([x.f0] : List ByteArray).length = 1 from rfl] at e9n; subst e9n; have HC9n := Aside0.mk (count_one A9n c9n x.f0 _ g w8 w9an ho (blk_lt RT.out.r.bg) RU9n.out.r.bg); clear hg_ hn_ ho hb) | (go_at_call 28; with_reducible refine HC9n.out.mono ?_; rintro e w9n ⟨rfl, hg4, hk4⟩; have RV := Aside0.mk (RU9n.out.ks hg4 hk4); clear hg4 hk4 RU9n))
     clear z0 HC9n RT
     have z2 : w9n.cell? ⟨gt, 2, none⟩ = some (.slice A6 x.f2.length c6) := (RV.out.field 2).trans rfl
     have HC := Aside0.mk (count_lit A6 c6 x.f2 _ g w9n (RV.out.r.row HI2.out) HL2.out RV.out.r.bg)
     go_upto_region 18 with (go_at_call 28; with_reducible refine HC.out.mono ?_; rintro e w20 ⟨rfl, hg4, hk4⟩; have RV17 := Aside0.mk (RV.out.ks hg4 hk4); clear hg4 hk4)
     clear HC RV z2
     have z3 : w20.cell? ⟨gt, 3, none⟩ = some (.slice A7 x.f3.length c7) := (RV17.out.field 3).trans rfl
     have HC := Aside0.mk (count_lit A7 c7 x.f3 _ g w20 (RV17.out.r.row HI3.out) HL3.out RV17.out.r.bg)
     go_upto_region 19 with (go_at_call 28; with_reducible refine HC.out.mono ?_; rintro e w21 ⟨rfl, hg4, hk4⟩; have RV18 := Aside0.mk (RV17.out.ks hg4 hk4); clear hg4 hk4)
     clear HC RV17 z3
     have z4 : w21.cell? ⟨gt, 4, none⟩ = some (.slice A8 x.f4.length c8) := (RV18.out.field 4).trans rfl
     have HC := Aside0.mk (count_lit A8 c8 x.f4 _ g w21 (RV18.out.r.row HI4.out) HL4.out RV18.out.r.bg)
     go_upto_region 20 with (go_at_call 28; with_reducible refine HC.out.mono ?_; rintro e w22 ⟨rfl, hg4, hk4⟩; have RV19 := Aside0.mk (RV18.out.ks hg4 hk4); clear hg4 hk4)
     clear HC RV18 z4
     have z5 : w22.cell? ⟨gt, 5, none⟩ = some (.slice A9 x.f5.length c9) := (RV19.out.field 5).trans rfl
     have HC := Aside0.mk (count_lit A9 c9 x.f5 _ g w22 (RV19.out.r.row HI5.out) HL5.out RV19.out.r.bg)
     go_wp2_with (go_at_call 28; with_reducible refine HC.out.mono ?_; rintro e w23 ⟨rfl, hg4, hk4⟩; have RV20 := Aside0.mk (RV19.out.ks hg4 hk4); clear hg4 hk4)
     clear HC RV19 z5
     go_roundg (l4.length - (kk + 1))
     case measure => omega
     case rel =>
      refine ⟨kk + 1, by omega, by omega, by go_num, ⟨?_⟩⟩
      have e : (l4.take (kk + 1)).foldl cntT n2 = cntT ((l4.take kk).foldl cntT n2) x := by rw [List.take_succ_eq_append_getElem hlt, List.foldl_append, HX.out]; rfl
      rw [e]
      exact RV20.out.r
    ·have hltz : ¬ (kk : Int) < (l4.length : Int) := by omega
     obtain rfl : kk = l4.length := by omega
     have R5 := RR
     rw [List.take_length] at R5
     clear RR
     obtain ⟨n3, hn3⟩ : ∃ n3, n3 = l4.foldl cntT n2 := ⟨_, rfl⟩
     rw [← hn3] at R5
     go_wp2
     go_loopg [8] l5.length (fun gg s8 wr => ∃ kk : Nat, kk ≤ l5.length ∧ l5.length - kk ≤ gg ∧ s8 = .int .i64 kk ∧ Aside0 (Rl w gb g cs ((l5.take kk).foldl cntU n3) wr))
     case atStart => exact ⟨0, Nat.zero_le _, by omega, rfl, R5⟩
     case round =>
      clear R5 f4
      obtain ⟨kk, hkk, hgk, rfl, RR⟩ := hrel
      have f5 := (RR.out.field 5).trans E5.out
      by_cases hlt : kk < l5.length
      ·have hltz : (kk : Int) < (l5.length : Int) := by omega
       have p101 : (0 ≤ (kk : Int)) = True := eq_true (by omega)
       have q101 : ((kk : Int) < (l5.length : Int)) = True := eq_true hltz
       obtain ⟨ad, A6, c6, A7, c7, rfl, hx0, hx1, hx2, hl1, hi1, hl2, hi2⟩ := at_T51 HR5.out (kk : Int) (by omega) hltz
       have hy : rd_T51 l5 (kk : Int) = l5[kk] := by
        unfold rd_T51
        rw [Int.toNat_natCast, List.getD_eq_getElem?_getD, List.getElem?_eq_getElem hlt]; rfl
       rw [hy] at hx0 hx1 hx2 hl1 hi1 hl2 hi2
       rw [Int.toNat_natCast] at hx0 hx1 hx2
       obtain ⟨x, hxx⟩ : ∃ x, x = l5[kk] := ⟨_, rfl⟩
       rw [← hxx] at hx0 hx1 hx2 hl1 hi1 hl2 hi2
       have HX := Aside0.mk hxx
       have HI1 := Aside0.mk hi1
       have HI2 := Aside0.mk hi2
       have HL1 := Aside0.mk hl1
       have HL2 := Aside0.mk hl2
       have Hx0 := Aside0.mk hx0
       have Hx1 := Aside0.mk hx1
       have Hx2 := Aside0.mk hx2
       clear hi1 hi2 hl1 hl2 hy hxx hx0 hx1 hx2
       go_upto_region 24 with (fail)
       have z0 := RR.out.cell Hx0.out
       go_upto_region 25 with (first | ((with_reducible refine gate_dst (N := 108) rfl ?_); (try (refine gate_guard (by rfl) ?_; dsimp only)); refine Kd.R_lit Kd.string _ 9 ?hg (N := 108) ?hd (xs := ([x.f0] : List ByteArray)) (inner := [.string x.f0]) (ok := fun k => wr.heap.size ≤ k) (okp := fun k => wr.heap.size ≤ k) ?hr ?hp (fun _ hk => hk) (Nat.le_refl _) (Below.refl _ _) (Nat.le_refl _) (by simp) ?_; (case hd => rfl); (case hg => rfl); (case hr => first | (go_simp; done) | (go_simp; rfl)); (case hp => exact (Reps.one (show Kd.M Kd.string _ _ _ x.f0 [.string x.f0] from rfl) (Reps.none _ _))); intro v9n w9an ho hb hg_ hn_; have RU9n := Aside0.mk (RR.out.below hb); obtain ⟨A9n, c9n, e9n⟩ := Kd.R_slice ho; rw [show ([x.f0] : List ByteArray).length = 1 from rfl] at e9n; subst e9n; have HC9n := Aside0.mk (count_one A9n c9n x.f0 _ g wr w9an ho (blk_lt RR.out.bg) RU9n.out.bg); clear hg_ hn_ ho hb) | (go_at_call 28; with_reducible refine HC9n.out.mono ?_; rintro e w9n ⟨rfl, hg4, hk4⟩; have RV := Aside0.mk (RU9n.out.ks hg4 hk4); clear hg4 hk4 RU9n))
       clear z0 HC9n f5 RR
       have f5 := (RV.out.field 5).trans E5.out
       have z1 := RV.out.cell Hx1.out
       have HC := Aside0.mk (count_lit A6 c6 x.f1 _ g w9n (RV.out.row HI1.out) HL1.out RV.out.bg)
       go_upto_region 26 with (go_at_call 28; with_reducible refine HC.out.mono ?_; rintro e w28 ⟨rfl, hg4, hk4⟩; have RV25 := Aside0.mk (RV.out.ks hg4 hk4); clear hg4 hk4)
       clear HC RV z1 f5
       have f5 := (RV25.out.field 5).trans E5.out
       have z2 := RV25.out.cell Hx2.out
       have HC := Aside0.mk (count_lit A7 c7 x.f2 _ g w28 (RV25.out.row HI2.out) HL2.out RV25.out.bg)
       go_wp2_with (go_at_call 28; with_reducible refine HC.out.mono ?_; rintro e w29 ⟨rfl, hg4, hk4⟩; have RV26 := Aside0.mk (RV25.out.ks hg4 hk4); clear hg4 hk4)
       clear HC RV25 z2 f5
       go_roundg (l5.length - (kk + 1))
       case measure => omega
       case rel =>
        refine ⟨kk + 1, by omega, by omega, by go_num, ⟨?_⟩⟩
        have e : (l5.take (kk + 1)).foldl cntU n3 = cntU ((l5.take kk).foldl cntU n3) x := by rw [List.take_succ_eq_append_getElem hlt, List.foldl_append, HX.out]; rfl
        rw [e]
        exact RV26.out
      ·have hltz : ¬ (kk : Int) < (l5.length : Int) := by omega
       obtain rfl : kk = l5.length := by omega
       rw [List.take_length] at RR
       have hcz : wr.cell? ⟨g, 0, none⟩ = some (.int .i64 (l5.foldl cntU n3)) := (blk_cell RR.out.bg 0).trans rfl
       subst hn3 hn2 hn1
       generalize hN : l5.foldl cntU (l4.foldl cntT (l3.foldl cntG (cnt (cnt (cnt 0 l0) l1) l2))) = nn at hcz hfin RR ⊢
       go_wp2
       go_ret
       subst hfin
       exact ⟨rfl, RR.out.hb⟩
end Go.Proofs.Ytppndhbeglcioaa.GA
