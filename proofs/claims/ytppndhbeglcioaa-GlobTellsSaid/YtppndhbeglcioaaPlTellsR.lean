/- GlobTells: the walk and the plain law joined, and how a policy, a question are read as data. -/
import Derived.Test.YtppndhbeglcioaaPlTells
import Derived.Test.YtppndhbeglcioaaOpenW
namespace Go.Proofs.Ytppndhbeglcioaa.Pl
open Go Go.RowKit Go.Deep Go.ChangeShapes Go.WideShapes Go.Proofs.YtppndhbeglcioaaOpenW Go.Proofs.YtppndhbeglcioaaUniq Go.Proofs.Ytppndhbeglcioaa.GA Go.Proofs.YtppndhbeglcioaaW.PrintWords Go.Proofs.YtppndhbeglcioaaW.PrintLast Go.Proofs.YtppndhbeglcioaaW.PrintMore
set_option linter.unusedVariables false
set_option linter.unusedSimpArgs false
theorem heap36 : Kd.Heap k36 := Kd.heap_iso _ (Kd.heap_pair Kd.heap_string (Kd.heap_slice 9 Kd.heap_string))
theorem heap34 : Kd.Heap k34 := Kd.heap_iso _ (Kd.heap_pair Kd.heap_string (Kd.heap_pair Kd.heap_bool (Kd.heap_pair (Kd.heap_slice 9 Kd.heap_string) (Kd.heap_pair (Kd.heap_slice 9 Kd.heap_string) (Kd.heap_pair (Kd.heap_slice 9 Kd.heap_string) (Kd.heap_slice 9 Kd.heap_string))))))
theorem heap51 : Kd.Heap k51 := Kd.heap_iso _ (Kd.heap_pair Kd.heap_string (Kd.heap_pair (Kd.heap_slice 9 Kd.heap_string) (Kd.heap_slice 9 Kd.heap_string)))
/-- A row of texts, of what a machine may reach. -/
def Rch (l : List ByteArray) : Prop := l.length * 16 ≤ 140737488351232 ∧ ∀ s ∈ l, s.size ≤ 140737488351232
theorem Rch.fit {l : List ByteArray} (h : Rch l) : Fit l := ⟨by have := h.1; omega, fun s hs => by have := h.2 s hs; omega⟩
theorem V_of {α : Type} {d : Kd α} (hd : Kd.Heap d) {w : World} {A : Option Addr} {c e : Nat} {l : List α} (h : d.C w A l.length l) (hc : l.length ≤ c) : Kd.V d e w w.heap.size (fun k => k < w.heap.size) (.slice A l.length c) l := ⟨A, c, rfl, hc, Kd.C_F hd h⟩
theorem GlobTells_walk (a0 a1 : ByteArray) (A2 : Option Addr) (c2 : Nat) (l2 : List ByteArray) (A3 : Option Addr) (c3 : Nat) (l3 : List ByteArray) (P0 : Option Addr) (e0 : Nat) (P1 : Option Addr) (e1 : Nat) (P2 : Option Addr) (e2 : Nat) (P3 : Option Addr) (e3 : Nat) (P4 : Option Addr) (e4 : Nat) (P5 : Option Addr) (e5 : Nat) (x : S28) (A5 : Option Addr) (c5 : Nat) (l5 : List Int) (b : Bool) (u a r : ByteArray) (n : Int) (w : World)
    (w0 : a0.size ≤ 140737488351232) (w1 : a1.size ≤ 140737488351232) (h2 : Kd.string.C w A2 l2.length l2 ∧ l2.length ≤ c2) (q2 : Rch l2) (h3 : Kd.string.C w A3 l3.length l3 ∧ l3.length ≤ c3) (q3 : Rch l3)
    (hp0 : x.f0.length ≤ e0 ∧ Kd.string.C w P0 x.f0.length x.f0) (hp1 : x.f1.length ≤ e1 ∧ Kd.string.C w P1 x.f1.length x.f1) (hp2 : x.f2.length ≤ e2 ∧ Kd.string.C w P2 x.f2.length x.f2) (hp3 : x.f3.length ≤ e3 ∧ k36.C w P3 x.f3.length x.f3) (hp4 : x.f4.length ≤ e4 ∧ k34.C w P4 x.f4.length x.f4) (hp5 : x.f5.length ≤ e5 ∧ k51.C w P5 x.f5.length x.f5)
    (hP : FitP x.f0 x.f1 x.f2 x.f3 x.f4 x.f5) (hg : ∀ y ∈ x.f3, (1 + y.f1.length) * 16 ≤ 140737488355328) (h5 : (Kd.int .i64).C w A5 l5.length l5 ∧ l5.length ≤ c5) (ha : a.size ≤ 140737488351232) (hr : r.size ≤ 140737488351232) :
    Calls Try.prog 4 #[.string a0, .string a1, .slice A2 l2.length c2, .slice A3 l3.length c3, .agg #[.slice P0 x.f0.length e0, .slice P1 x.f1.length e1, .slice P2 x.f2.length e2, .slice P3 x.f3.length e3, .slice P4 x.f4.length e4, .slice P5 x.f5.length e5], .slice A5 l5.length c5, .agg #[.bool b, .string u, .string a, .string r], .int .i64 n] w fun e w' => e = .returned (.bool true) ∧ Below w.heap.size w w' := by
  obtain ⟨k, hk⟩ := (GlobTells_ev a0 a1 l2 l3 x.f0 x.f1 x.f2 x.f3 x.f4 x.f5 l5 b u a r n (by omega) (by omega) q2.fit q3.fit hP hg (by omega) (by omega)).ex
  exact entaillaw24_GlobTells.calls k a0 a1 A2 c2 l2 A3 c3 l3 (fun k => k < w.heap.size) P0 e0 x.f0 (fun k => k < w.heap.size) P1 e1 x.f1 (fun k => k < w.heap.size) P2 e2 x.f2 (fun k => k < w.heap.size) P3 e3 x.f3 (fun k => k < w.heap.size) P4 e4 x.f4 (fun k => k < w.heap.size) P5 e5 x.f5 A5 c5 l5 b u a r n true w h2.1 h2.2 h3.1 h3.2 (V_of Kd.heap_string hp0.2 hp0.1) (V_of Kd.heap_string hp1.2 hp1.1) (V_of Kd.heap_string hp2.2 hp2.1) (V_of heap36 hp3.2 hp3.1) (V_of heap34 hp4.2 hp4.1) (V_of heap51 hp5.2 hp5.1) h5.1 h5.2 hk
/-! ### How they are read -/
theorem reach_eq : reachBytes = 140737488351232 := by decide
theorem opensL : OpensW Try.prog (Kd.slice 9 Kd.string) 23 Rch := (opens_slice Try.underlying23 (by kernel_rfl) (opens_string Try.underlying9)).imp fun l h => by
  rw [show Try.prog.bytesOf 9 = 16 by kernel_rfl, reach_eq] at h
  exact h
theorem z9 : Try.prog.cellsOf 9 = 1 := by kernel_rfl
theorem z23 : Try.prog.cellsOf 23 = 1 := by kernel_rfl
theorem z24 : Try.prog.cellsOf 24 = 1 := by kernel_rfl
theorem z25 : Try.prog.cellsOf 25 = 1 := by kernel_rfl
theorem z26 : Try.prog.cellsOf 26 = 1 := by kernel_rfl
theorem z4 : Try.prog.cellsOf 4 = 1 := by kernel_rfl
theorem list2 {cs : List Value} (h : cs.length = 2) : ∃ a b, cs = [a, b] := by
  match cs, h with
  | [a, b], _ => exact ⟨a, b, rfl⟩
theorem list3 {cs : List Value} (h : cs.length = 3) : ∃ a b c, cs = [a, b, c] := by
  match cs, h with
  | [a, b, c], _ => exact ⟨a, b, c, rfl⟩
theorem list4 {cs : List Value} (h : cs.length = 4) : ∃ a b c d, cs = [a, b, c, d] := by
  match cs, h with
  | [a, b, c, d], _ => exact ⟨a, b, c, d, rfl⟩
theorem list6 {cs : List Value} (h : cs.length = 6) : ∃ a b c d e f, cs = [a, b, c, d, e, f] := by
  match cs, h with
  | [a, b, c, d, e, f], _ => exact ⟨a, b, c, d, e, f, rfl⟩
theorem opens36 : OpensW Try.prog k36 36 (fun x => Rch x.f1) := fun H enc w base spare held fuel cs x hx hw => by
  obtain ⟨xs, n, rfl, rfl, hlen, hxl, hf⟩ := DataW.trod_struct Try.underlying36 hx
  obtain ⟨y0, hk0, hq0⟩ := open_field Try.underlying36 hf hxl hw (i := 0) rfl (opens_string Try.underlying9)
  obtain ⟨y1, hk1, hq1⟩ := open_field Try.underlying36 hf hxl hw (i := 1) rfl opensL
  obtain ⟨a, b, rfl⟩ := list2 (hlen.trans (by kernel_rfl))
  exact ⟨⟨y0, y1⟩, ⟨_, _, by simp [z9, z23], hk0, hk1⟩, hq1⟩
theorem opens51 : OpensW Try.prog k51 51 (fun x => Rch x.f1 ∧ Rch x.f2) := fun H enc w base spare held fuel cs x hx hw => by
  obtain ⟨xs, n, rfl, rfl, hlen, hxl, hf⟩ := DataW.trod_struct Try.underlying51 hx
  obtain ⟨y0, hk0, hq0⟩ := open_field Try.underlying51 hf hxl hw (i := 0) rfl (opens_string Try.underlying9)
  obtain ⟨y1, hk1, hq1⟩ := open_field Try.underlying51 hf hxl hw (i := 1) rfl opensL
  obtain ⟨y2, hk2, hq2⟩ := open_field Try.underlying51 hf hxl hw (i := 2) rfl opensL
  obtain ⟨a, b, c, rfl⟩ := list3 (hlen.trans (by kernel_rfl))
  exact ⟨⟨y0, y1, y2⟩, ⟨_, _, by simp [z9, z23], hk0, _, _, rfl, hk1, hk2⟩, hq1, hq2⟩
theorem opens34 : OpensW Try.prog k34 34 (fun x => Rch x.f2 ∧ Rch x.f3 ∧ Rch x.f4 ∧ Rch x.f5) := fun H enc w base spare held fuel cs x hx hw => by
  obtain ⟨xs, n, rfl, rfl, hlen, hxl, hf⟩ := DataW.trod_struct Try.underlying34 hx
  obtain ⟨y0, hk0, hq0⟩ := open_field Try.underlying34 hf hxl hw (i := 0) rfl (opens_string Try.underlying9)
  obtain ⟨y1, hk1, hq1⟩ := open_field Try.underlying34 hf hxl hw (i := 1) rfl (opens_bool Try.underlying4)
  obtain ⟨y2, hk2, hq2⟩ := open_field Try.underlying34 hf hxl hw (i := 2) rfl opensL
  obtain ⟨y3, hk3, hq3⟩ := open_field Try.underlying34 hf hxl hw (i := 3) rfl opensL
  obtain ⟨y4, hk4, hq4⟩ := open_field Try.underlying34 hf hxl hw (i := 4) rfl opensL
  obtain ⟨y5, hk5, hq5⟩ := open_field Try.underlying34 hf hxl hw (i := 5) rfl opensL
  obtain ⟨a, b, c, d, e, f, rfl⟩ := list6 (hlen.trans (by kernel_rfl))
  exact ⟨⟨y0, y1, y2, y3, y4, y5⟩, ⟨_, _, by simp [z9, z23, z4], hk0, _, _, rfl, hk1, _, _, rfl, hk2, _, _, rfl, hk3, _, _, rfl, hk4, hk5⟩, hq2, hq3, hq4, hq5⟩
def RchP (x : S28) : Prop := Rch x.f0 ∧ Rch x.f1 ∧ Rch x.f2 ∧ (x.f3.length < 4611686018427387904 ∧ ∀ y ∈ x.f3, Rch y.f1) ∧ (x.f4.length < 4611686018427387904 ∧ ∀ y ∈ x.f4, Rch y.f2 ∧ Rch y.f3 ∧ Rch y.f4 ∧ Rch y.f5) ∧ (x.f5.length < 4611686018427387904 ∧ ∀ y ∈ x.f5, Rch y.f1 ∧ Rch y.f2)
theorem RchP.fit {x : S28} (h : RchP x) : FitP x.f0 x.f1 x.f2 x.f3 x.f4 x.f5 :=
  ⟨h.1.fit, h.2.1.fit, h.2.2.1.fit, ⟨h.2.2.2.1.1, fun y hy => (h.2.2.2.1.2 y hy).fit⟩, ⟨h.2.2.2.2.1.1, fun y hy => have := h.2.2.2.2.1.2 y hy; ⟨this.1.fit, this.2.1.fit, this.2.2.1.fit, this.2.2.2.fit⟩⟩, ⟨h.2.2.2.2.2.1, fun y hy => have := h.2.2.2.2.2.2 y hy; ⟨this.1.fit, this.2.fit⟩⟩⟩
theorem RchP.groups {x : S28} (h : RchP x) : ∀ y ∈ x.f3, (1 + y.f1.length) * 16 ≤ 140737488355328 := fun y hy => by have := (h.2.2.2.1.2 y hy).1; omega
theorem few_of {a b : Nat} (h : a * (b + 1) ≤ 140737488351232) : a < 4611686018427387904 := by
  have := Nat.le_mul_of_pos_right a (Nat.succ_pos b)
  exact Nat.lt_of_le_of_lt (Nat.le_trans this h) (by decide)
theorem opensP : OpensW Try.prog k28 28 RchP := fun H enc w base spare held fuel cs x hx hw => by
  obtain ⟨xs, n, rfl, rfl, hlen, hxl, hf⟩ := DataW.trod_struct Try.underlying28 hx
  obtain ⟨y0, hk0, hq0⟩ := open_field Try.underlying28 hf hxl hw (i := 0) rfl opensL
  obtain ⟨y1, hk1, hq1⟩ := open_field Try.underlying28 hf hxl hw (i := 1) rfl opensL
  obtain ⟨y2, hk2, hq2⟩ := open_field Try.underlying28 hf hxl hw (i := 2) rfl opensL
  obtain ⟨y3, hk3, hq3⟩ := open_field Try.underlying28 hf hxl hw (i := 3) rfl (opens_slice Try.underlying24 (by kernel_rfl) opens36)
  obtain ⟨y4, hk4, hq4⟩ := open_field Try.underlying28 hf hxl hw (i := 4) rfl (opens_slice Try.underlying25 (by kernel_rfl) opens34)
  obtain ⟨y5, hk5, hq5⟩ := open_field Try.underlying28 hf hxl hw (i := 5) rfl (opens_slice Try.underlying26 (by kernel_rfl) opens51)
  obtain ⟨a, b, c, d, e, f, rfl⟩ := list6 (hlen.trans (by kernel_rfl))
  have s3 := hq3.1
  have s4 := hq4.1
  have s5 := hq5.1
  rw [show Try.prog.bytesOf 36 = 39 + 1 by kernel_rfl, reach_eq] at s3
  rw [show Try.prog.bytesOf 34 = 119 + 1 by kernel_rfl, reach_eq] at s4
  rw [show Try.prog.bytesOf 51 = 63 + 1 by kernel_rfl, reach_eq] at s5
  exact ⟨⟨y0, y1, y2, y3, y4, y5⟩, ⟨_, _, by simp [z23, z24, z25, z26], hk0, _, _, rfl, hk1, _, _, rfl, hk2, _, _, rfl, hk3, _, _, rfl, hk4, hk5⟩, hq0, hq1, hq2, ⟨few_of s3, hq3.2⟩, ⟨few_of s4, hq4.2⟩, ⟨few_of s5, hq5.2⟩⟩
abbrev kA : Kd (Bool × ByteArray × ByteArray × ByteArray) := Kd.pair Kd.bool (Kd.pair Kd.string (Kd.pair Kd.string Kd.string))
theorem opensA : OpensW Try.prog kA 31 (fun x => x.2.1.size ≤ reachBytes ∧ x.2.2.1.size ≤ reachBytes ∧ x.2.2.2.size ≤ reachBytes) := fun H enc w base spare held fuel cs x hx hw => by
  obtain ⟨xs, n, rfl, rfl, hlen, hxl, hf⟩ := DataW.trod_struct Try.underlying31 hx
  obtain ⟨y0, hk0, hq0⟩ := open_field Try.underlying31 hf hxl hw (i := 0) rfl (opens_bool Try.underlying4)
  obtain ⟨y1, hk1, hq1⟩ := open_field Try.underlying31 hf hxl hw (i := 1) rfl (opens_string Try.underlying9)
  obtain ⟨y2, hk2, hq2⟩ := open_field Try.underlying31 hf hxl hw (i := 2) rfl (opens_string Try.underlying9)
  obtain ⟨y3, hk3, hq3⟩ := open_field Try.underlying31 hf hxl hw (i := 3) rfl (opens_string Try.underlying9)
  obtain ⟨a, b, c, d, rfl⟩ := list4 (hlen.trans (by kernel_rfl))
  exact ⟨⟨y0, y1, y2, y3⟩, ⟨_, _, by simp [z4, z9], hk0, _, _, rfl, hk1, _, _, rfl, hk2, hk3⟩, hq1, hq2, hq3⟩
theorem kA_open {w : World} {x : Bool × ByteArray × ByteArray × ByteArray} {cs : List Value} (h : kA.K w x cs) : cs = [.bool x.1, .string x.2.1, .string x.2.2.1, .string x.2.2.2] := by
  obtain ⟨_, _, rfl, rfl, ⟨_, _, rfl, rfl, ⟨_, _, rfl, rfl, rfl⟩⟩⟩ := h
  rfl
theorem arg_policy {H : Type} {enc : TypeId × Value → H} {w : World} {base : Nat} {spare : Nat → Bool} {held : Bool} {v : Value} {dd : DataW H} {ps : List MemPlace} {r : Reach} {b0 : Nat} (hval : Value.okWide Try.prog w r b0 28 v) (hd : DataW.Trod enc Try.prog w base spare held 28 v dd ps) (hw : ∀ n ∈ dd.weights Try.prog 28, n ≤ reachBytes) :
    ∃ (x : S28) (A0 : Option Addr) (c0 : Nat) (A1 : Option Addr) (c1 : Nat) (A2 : Option Addr) (c2 : Nat) (A3 : Option Addr) (c3 : Nat) (A4 : Option Addr) (c4 : Nat) (A5 : Option Addr) (c5 : Nat), v = .agg #[.slice A0 x.f0.length c0, .slice A1 x.f1.length c1, .slice A2 x.f2.length c2, .slice A3 x.f3.length c3, .slice A4 x.f4.length c4, .slice A5 x.f5.length c5] ∧ RchP x ∧
      (x.f0.length ≤ c0 ∧ Kd.string.C w A0 x.f0.length x.f0) ∧ (x.f1.length ≤ c1 ∧ Kd.string.C w A1 x.f1.length x.f1) ∧ (x.f2.length ≤ c2 ∧ Kd.string.C w A2 x.f2.length x.f2) ∧ (x.f3.length ≤ c3 ∧ k36.C w A3 x.f3.length x.f3) ∧ (x.f4.length ≤ c4 ∧ k34.C w A4 x.f4.length x.f4) ∧ (x.f5.length ≤ c5 ∧ k51.C w A5 x.f5.length x.f5) := by
  obtain ⟨cs, x, rfl, hk, hq⟩ := arg_struct opensP Try.underlying28 hval hd hw
  obtain ⟨A0, c0, A1, c1, A2, c2, A3, c3, A4, c4, A5, c5, e, l0, g0, l1, g1, l2, g2, l3, g3, l4, g4, l5, g5⟩ := k28_open hk
  obtain rfl : cs = #[.slice A0 x.f0.length c0, .slice A1 x.f1.length c1, .slice A2 x.f2.length c2, .slice A3 x.f3.length c3, .slice A4 x.f4.length c4, .slice A5 x.f5.length c5] := by
    apply Array.toList_inj.1
    exact e
  exact ⟨x, A0, c0, A1, c1, A2, c2, A3, c3, A4, c4, A5, c5, rfl, hq, ⟨l0, g0⟩, ⟨l1, g1⟩, ⟨l2, g2⟩, ⟨l3, g3⟩, ⟨l4, g4⟩, ⟨l5, g5⟩⟩
theorem arg_ask {H : Type} {enc : TypeId × Value → H} {w : World} {base : Nat} {spare : Nat → Bool} {held : Bool} {v : Value} {dd : DataW H} {ps : List MemPlace} {r : Reach} {b0 : Nat} (hval : Value.okWide Try.prog w r b0 31 v) (hd : DataW.Trod enc Try.prog w base spare held 31 v dd ps) (hw : ∀ n ∈ dd.weights Try.prog 31, n ≤ reachBytes) :
    ∃ (b : Bool) (u a o : ByteArray), v = .agg #[.bool b, .string u, .string a, .string o] ∧ u.size ≤ 140737488351232 ∧ a.size ≤ 140737488351232 ∧ o.size ≤ 140737488351232 := by
  obtain ⟨cs, x, rfl, hk, hq⟩ := arg_struct opensA Try.underlying31 hval hd hw
  have e := kA_open hk
  rw [reach_eq] at hq
  refine ⟨x.1, x.2.1, x.2.2.1, x.2.2.2, ?_, hq⟩
  congr 1
  apply Array.toList_inj.1
  exact e
end Go.Proofs.Ytppndhbeglcioaa.Pl
