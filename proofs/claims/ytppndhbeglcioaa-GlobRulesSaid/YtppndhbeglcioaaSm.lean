import Derived.Test.YtppndhbeglcioaaCutB
import Derived.Lib.Walk
import Derived.Deep.DeepMust
import Derived.StillTailTactics
namespace Go.Proofs.Ytppndhbeglcioaa.GA
open Go.RowKit Go.Proofs.YtppndhbeglcioaaW.PrintWords Go.Proofs.YtppndhbeglcioaaW.PrintLast Go.Proofs.YtppndhbeglcioaaW.PrintMore
set_option linter.unusedVariables false
set_option linter.unusedSimpArgs false
def cntS (n : Int) (l : List ByteArray) : Int := l.foldl (fun n s => wrap64 (wrap64 (n + 1) + wrap64 ((s.size : Int) / 10))) n
def cnt (n : Int) (l : List ByteArray) : Int := wrap64 (cntS n (l.take 40) + (l.length : Int))
/-- All but the cell g stays as it lay. -/
structure Ks (g : Nat) (w w' : World) : Prop where
  os : w'.os = w.os
  tape : w'.tape = w.tape
  output : w'.output = w.output
  size : w.heap.size ≤ w'.heap.size
  block : ∀ k, k < w.heap.size → k ≠ g → w'.heap[k]? = w.heap[k]?
theorem Ks.refl (g : Nat) (w : World) : Ks g w w := ⟨rfl, rfl, rfl, Nat.le_refl _, fun _ _ _ => rfl⟩
theorem Ks.trans {g : Nat} {a b c : World} (h : Ks g a b) (h' : Ks g b c) : Ks g a c :=
  ⟨h'.os.trans h.os, h'.tape.trans h.tape, h'.output.trans h.output, Nat.le_trans h.size h'.size, fun k hk hg => (h'.block k (Nat.lt_of_lt_of_le hk h.size) hg).trans (h.block k hk hg)⟩
theorem Ks.below {g B : Nat} {w0 w w' : World} (h : Ks g w w') (hb : Below B w0 w) (hB : B ≤ g) (hg : g < w.heap.size) : Below B w0 w' :=
  ⟨h.os.trans hb.os, h.tape.trans hb.tape, h.output.trans hb.output, Nat.le_trans hb.size h.size, fun k hk => (h.block k (by omega) (by omega)).trans (hb.block k hk)⟩
theorem Ks.set {g : Nat} (w : World) (v : Value) : Ks g w (w.setCell ⟨g, 0, none⟩ v) :=
  ⟨rfl, rfl, rfl, by simp [World.setCell], fun k _ hk => Below.heap_setCell w ⟨g, 0, none⟩ v k hk⟩
theorem cntS_step (n : Int) (l : List ByteArray) (k : Nat) (h : k < l.length) : cntS n (l.take (k + 1)) = wrap64 (wrap64 (cntS n (l.take k) + 1) + wrap64 ((l[k].size : Int) / 10)) := by
  unfold cntS
  rw [List.take_succ_eq_append_getElem h, List.foldl_append]
  rfl
set_option maxHeartbeats 4000000 in
theorem count_lit (A : Option Addr) (c : Nat) (l : List ByteArray) (n : Int) (g : Nat) (w : World) (hr : Kd.F Kd.string w (fun k => k ≠ g) A l.length l) (hc : l.length ≤ c) (hg : w.heap[g]? = some (.cells #[.int .i64 n] 3 (0, 0))) :
    Calls Try.prog 28 #[.slice A l.length c, .pointer (some ⟨g, 0, none⟩)] w fun e w' => e = .returned (.tuple #[]) ∧ w'.heap[g]? = some (.cells #[.int .i64 (cnt n l)] 3 (0, 0)) ∧ Ks g w w' := by
  have HR := Aside0.mk hr
  have HG := Aside0.mk hg
  have hbig : l.length ≤ 9223372036854775807 := (Kd.F_now hr).2.1
  clear hr hg
  go_enter Try.func28, Try.ntmps28
  go_wp2
  go_loopg [3] l.length (fun gg s3 wr => ∃ kk : Nat, kk ≤ l.length ∧ kk ≤ 40 ∧ l.length - kk ≤ gg ∧ s3 = .int .i64 kk ∧ Aside0 (Ks g w wr) ∧ Aside0 (wr.heap[g]? = some (.cells #[.int .i64 (cntS n (l.take kk))] 3 (0, 0))))
  case atStart => exact ⟨0, Nat.zero_le _, by omega, by omega, rfl, ⟨Ks.refl _ w⟩, HG⟩
  case round =>
    obtain ⟨kk, hkk, h40, hg, rfl, BW, A0⟩ := hrel
    have HR1 := Aside0.mk (Kd.F_step HR.out (fun k hk hlt => BW.out.block k hlt hk))
    by_cases hlt : kk < l.length
    · have hltz : (kk : Int) < (l.length : Int) := by omega
      by_cases h41 : kk < 40
      · have h41z : (kk : Int) < 40 := by omega
        obtain ⟨ad, rfl, hx⟩ := Kd.at_string (Kd.F_now HR1.out) (kk : Int) (by omega) hltz
        rw [Int.toNat_natCast] at hx
        have hy : rdOf ByteArray.empty l (kk : Int) = l[kk] := by
          unfold rdOf
          rw [Int.toNat_natCast, List.getD_eq_getElem?_getD, List.getElem?_eq_getElem hlt]; rfl
        rw [hy] at hx
        have hgc : wr.cell? ⟨g, 0, none⟩ = some (.int .i64 (cntS n (l.take kk))) := (blk_cell A0.out 0).trans rfl
        have hfz : wr.frozen? ⟨g, 0, none⟩ = false := blk_frozen A0.out 0
        have p101 : (0 ≤ (kk : Int)) = True := eq_true (by omega)
        have q101 : ((kk : Int) < (l.length : Int)) = True := eq_true hltz
        go_wp2
        go_still_tail 9, (by kernel_rfl)
        change wpList _ _ _ _ _ wr.drew
        have A1 := Aside0.mk (blk_drew A0.out)
        have hgc : wr.drew.cell? ⟨g, 0, none⟩ = some (.int .i64 (cntS n (l.take kk))) := (blk_cell A1.out 0).trans rfl
        have hfz : wr.drew.frozen? ⟨g, 0, none⟩ = false := blk_frozen A1.out 0
        have K1 := Aside0.mk (BW.out.trans (⟨rfl, rfl, rfl, Nat.le_refl _, fun _ _ _ => rfl⟩ : Ks g wr wr.drew))
        generalize wr.drew = w2 at A1 hgc hfz K1 ⊢
        go_wp2
        go_roundg (l.length - (kk + 1))
        case measure => omega
        case rel =>
          refine ⟨kk + 1, by omega, by omega, by omega, by go_num, ⟨K1.out.trans (Ks.set _ _)⟩, ⟨?_⟩⟩
          rw [cntS_step n l kk hlt]
          exact blk_put A1.out 0 _ rfl
      · have h41z : ¬ (kk : Int) < 40 := by omega
        obtain rfl : kk = 40 := by omega
        have hgc : wr.cell? ⟨g, 0, none⟩ = some (.int .i64 (cntS n (l.take 40))) := (blk_cell A0.out 0).trans rfl
        have hfz : wr.frozen? ⟨g, 0, none⟩ = false := blk_frozen A0.out 0
        go_wp2
        go_end0
        exact ⟨rfl, blk_put A0.out 0 _ rfl, BW.out.trans (Ks.set _ _)⟩
    · have hltz : ¬ (kk : Int) < (l.length : Int) := by omega
      obtain rfl : kk = l.length := by omega
      have hgc : wr.cell? ⟨g, 0, none⟩ = some (.int .i64 (cntS n (l.take l.length))) := (blk_cell A0.out 0).trans rfl
      have hfz : wr.frozen? ⟨g, 0, none⟩ = false := blk_frozen A0.out 0
      go_wp2
      go_end0
      refine ⟨rfl, ?_, BW.out.trans (Ks.set _ _)⟩
      have e : l.take 40 = l.take l.length := by rw [List.take_length, List.take_of_length_le (by omega)]
      unfold cnt
      rw [e]
      refine blk_put A0.out 0 _ ?_
      rw [List.take_length]; rfl
end Go.Proofs.Ytppndhbeglcioaa.GA
