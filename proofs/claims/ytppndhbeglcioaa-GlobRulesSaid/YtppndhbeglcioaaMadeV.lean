import Derived.Test.YtppndhbeglcioaaMade
namespace Go.Proofs.Ytppndhbeglcioaa.GA
open Go.RowKit Go.Proofs.YtppndhbeglcioaaW.PrintWords Go.Proofs.YtppndhbeglcioaaW.PrintLast Go.Proofs.YtppndhbeglcioaaW.PrintMore
set_option linter.unusedVariables false
theorem entaillaw23_Made.callsV (k : Nat) (A0 : Option Addr) (c0 : Nat) (l0 : List Int) (r1 : List ByteArray) (r2 : List ByteArray) (r3 : List ByteArray) (r4 : List (S36)) (r5 : List (S34)) (r6 : List (S51)) (w : World) (hr0 : Kd.C (Kd.int .i64) w A0 l0.length l0) (hc0 : l0.length ≤ c0) (h : entaillaw23_Made.f k l0 = some (r1, r2, r3, r4, r5, r6)) :
    Calls Try.prog 7 #[.slice A0 l0.length c0] w fun e w' => ∃ v0_ v1_ v2_ v3_ v4_ v5_ : Value, e = .returned (.agg #[v0_, v1_, v2_, v3_, v4_, v5_]) ∧ Kd.V Kd.string 9 w' w.heap.size (fun k_ => (w.heap.size ≤ k_)) v0_ r1 ∧ Kd.V Kd.string 9 w' w.heap.size (fun k_ => (w.heap.size ≤ k_)) v1_ r2 ∧ Kd.V Kd.string 9 w' w.heap.size (fun k_ => (w.heap.size ≤ k_)) v2_ r3 ∧ Kd.V k36 36 w' w.heap.size (fun k_ => (w.heap.size ≤ k_)) v3_ r4 ∧ Kd.V k34 34 w' w.heap.size (fun k_ => (w.heap.size ≤ k_)) v4_ r5 ∧ Kd.V k51 51 w' w.heap.size (fun k_ => (w.heap.size ≤ k_)) v5_ r6 ∧ Below w.heap.size w w' := by
  refine (entaillaw23_Made.calls k A0 c0 l0 r1 r2 r3 r4 r5 r6 w hr0 hc0 h).mono ?_
  rintro e w' ⟨v0, v1, v2, v3, v4, v5, rfl, h0, h1, h2, h3, h4, h5, hb⟩
  exact ⟨v0, v1, v2, v3, v4, v5, rfl, Kd.V_mono (Kd.R_V h0) (fun _ h => h.1), Kd.V_mono (Kd.R_V h1) (fun _ h => h.1), Kd.V_mono (Kd.R_V h2) (fun _ h => h.1), Kd.V_mono (Kd.N_V h3) (fun _ h => h.1), Kd.V_mono (Kd.N_V h4) (fun _ h => h.1), Kd.V_mono (Kd.N_V h5) (fun _ h => h.1), hb⟩
end Go.Proofs.Ytppndhbeglcioaa.GA
