/- A range over a function whose iterator writes a variable that it captured (strings.SplitSeq): the law of the loop, and the pieces of a text between its line feeds. -/
import Derived.RangeFuncWrites
import Derived.RangeFuncBox
import Derived.RangeFuncCalls
import Derived.RangeFuncLeaves
import Derived.Lib.Strings
import Derived.TacticsIn
import Derived.OrdersHeld
import Derived.Deep.RegionHeld
import Derived.Lib.IndexLaws
namespace Go.Proofs.YtamgobcahgcejaaDoorSeq
open Go Go.RowKit

/-- What an iterator promises whose steps are St: at whatever invariants of the rounds that abide St. -/
def Iter {α : Type} (P : Program) (gf : Nat) (lb : Array Value) (encs : α → Array Value) (St Kp : World → World → Prop) (S Sp : List α → Prop) (Nx : List α → α → Prop) (W : World) : Prop :=
  ∀ (l : Nat) (J Jx : List α → World → Prop), (∀ s A B, J s A → St A B → J s B) → (∀ s A B, Jx s A → St A B → Jx s B) →
    (∀ pre x W1, J pre W1 → Nx pre x → YieldAt Fence.wide 0 P l (encs x) W1 fun e W' =>
      (e = .returned (.bool true) ∧ J (pre ++ [x]) W' ∧ Kp W1 W') ∨ (e = .returned (.bool false) ∧ Jx (pre ++ [x]) W')) →
    J [] W →
    CallsIn Fence.wide 0 P gf (#[.func (.yield l) #[] #[]] ++ lb) W fun e W' => (∃ v, e = .returned v) ∧ ((∃ xs, S xs ∧ J xs W') ∨ (∃ pre, Sp pre ∧ Jx pre W'))

/-- How a round's body may end: on to the next round, or by a return. -/
def RoundEnd {α : Type} (B : Nat) (Kp : World → World → Prop) (I Ir : List α → World → Prop) (xs : List α) (W : World) : Exit → Act → World → Prop
  | .normal, _, W' => KeepsFrom B W W' ∧ Kp W W' ∧ I xs W'
  | .ret, _, W' => KeepsFrom B W W' ∧ Ir xs W'
  | _, _, _ => False

/-- The loop 'for x := range g { .. }' in a function's own frame: a round goes on, or returns. -/
theorem range_law {P : Program} {α : Type} {g : Operand} {ps : Array Tmp} {assign body : Code} {Q : Exit → Act → World → Prop} {a : Act} {w : World}
    {gf : Nat} {lb : Array Value} (hg : a.eval g = .func (.func gf) #[] lb) (eg : ∀ args w, (callFunc gf args).run P w = .ok (.enter gf args) w)
    {encs : α → Array Value} {St Kp : World → World → Prop} {S Sp : List α → Prop} {Nx : List α → α → Prop}
    (hseq : ∀ W : World, Below w.heap.size w W → Iter P gf lb encs St Kp S Sp Nx W)
    (hSt : ∀ {A B : World} {k : Nat}, St A B → w.heap.size ≤ k → B.heap[k]? = A.heap[k]?)
    (hKt : ∀ {A B C : World}, Kp A B → Kp B C → Kp A C) (hKb : ∀ (W : World) (l : Nat) (o : Obj), w.heap.size ≤ l → Kp W (W.putObj l o))
    (hps : ∀ x, (encs x).size = ps.size)
    (I Ir : List α → World → Prop) (hI : OwnFrom w.heap.size I) (hIr : OwnFrom w.heap.size Ir)
    (hIs : ∀ s A B, I s A → St A B → I s B) (hIrs : ∀ s A B, Ir s A → St A B → Ir s B) (h0 : I [] w) (a₁ : α → Act)
    (hassign : ∀ (l : Nat) (x : α) (W : World) (K : Act → World → Prop), K (a₁ x) W →
      assign.wpIn (Fence.wide.inRound l) 0 P (Exit.then K (fun _ _ _ => False)) { tmps := (ps.zip (encs x)).foldl (fun t (p, v) => t.setIfInBounds p v) a.tmps, defers := [] } W)
    (hbody : ∀ (l : Nat) (pre : List α) (x : α) (W : World), I pre W → Nx pre x → body.wpIn (Fence.wide.inRound l) 0 P (RoundEnd w.heap.size Kp I Ir (pre ++ [x]) W) (a₁ x) W)
    (hdone : ∀ (D : Nat) (xs : List α) (W : World), w.heap.size ≤ D → S xs → I xs W → W.heap[D]? = some (.deferred (some [])) → Q .normal { a with defers := { target := .collected D, args := #[] } :: a.defers } W)
    (hstop : ∀ (D : Nat) (pre : List α) (W : World), w.heap.size ≤ D → Sp pre → Ir pre W → W.heap[D]? = some (.deferred (some [])) → Q .ret { a with defers := { target := .collected D, args := #[] } :: a.defers } W) :
    (Code.rangeFunc g ps assign body).wpIn Fence.wide 0 P Q a w := by
  refine wpIn_rangeFunc fun fn hfn => ?_
  obtain ⟨D, hD⟩ : ∃ D, D = w.heap.size := ⟨_, rfl⟩
  obtain ⟨L, hL⟩ : ∃ L : LoopState → Option Code → Loop, L = fun st pe => { state := st, pending := pe, fn, tmps := a.tmps, params := ps, assign, body, defers := D } := ⟨_, rfl⟩
  obtain ⟨V, hV⟩ : ∃ V, (w.alloc (.deferred (some []))).alloc (.loop (L .ready none)) = V := ⟨_, rfl⟩
  have hVs : V.heap.size = D + 2 := by rw [← hV, hD]; simp
  -- the book: the loop's record and the block of deferred calls
  obtain ⟨book, hbk⟩ : ∃ book : LoopState → Option Code → World → Prop, book = fun st pe W => W.heap[D + 1]? = some (.loop (L st pe)) ∧ W.heap[D]? = some (.deferred (some [])) := ⟨_, rfl⟩
  have hbV : book .ready none V := by
    rw [hbk, ← hV, hD]
    refine ⟨?_, (Below.heap_alloc _ _ _ (by simp)).trans (World.alloc_heap_new w _)⟩
    have := World.alloc_heap_new (w.alloc (.deferred (some []))) (.loop (L .ready none))
    rwa [World.size_alloc] at this
  have hIV : I [] V := by rw [← hV]; exact hI.alloc _ (hI.alloc _ h0)
  have hVb : Below w.heap.size w V := by rw [← hV]; exact ((Below.refl _ w).alloc (Nat.le_refl _) _).alloc (by simp) _
  have hbs : ∀ {st pe A B}, book st pe A → St A B → book st pe B := by
    intro st pe A B hA hs
    rw [hbk] at hA ⊢
    exact ⟨(hSt hs (by omega)).trans hA.1, (hSt hs (by omega)).trans hA.2⟩
  have hlt : ∀ {st pe W}, book st pe W → D + 1 < W.heap.size := by
    intro st pe W h
    rw [hbk] at h
    exact (Array.getElem?_eq_some_iff.1 h.1).1
  have hput : ∀ {st pe} (st' : LoopState) (pe' : Option Code) {W : World}, book st pe W → book st' pe' (W.putObj (D + 1) (.loop (L st' pe'))) := by
    intro st pe st' pe' W h
    have h1 := hlt h
    rw [hbk] at h ⊢
    exact ⟨World.putObj_heap_same h1, (World.putObj_heap_other (by omega)).trans h.2⟩
  have hIput : ∀ {J : List α → World → Prop} {st pe} (o : Obj) {s : List α} {W : World}, OwnFrom w.heap.size J → J s W → book st pe W → J s (W.putObj (D + 1) o) := by
    intro J st pe o s W hJ hs h
    rw [hbk] at h
    exact hJ.putObj o hs (by omega) h.1 rfl
  have hkeep : ∀ {st pe A B}, book st pe A → KeepsFrom w.heap.size A B → book st pe B := by
    intro st pe A B h hk
    rw [hbk] at h ⊢
    exact ⟨hk.same _ _ (by omega) h.1 rfl, hk.same _ _ (by omega) h.2 rfl⟩
  refine ⟨D + 1, [{ target := .collected D, args := #[] }], V, { target := .fn (.func gf) lb, args := #[.func (.yield (D + 1)) #[] #[]] }, V, gf,
    #[.func (.yield (D + 1)) #[] #[]] ++ lb, V, ?_, ?_, fun f' _ => trivial, ?_, fun h => by simp [Fence.wide] at h, ?_⟩
  · rw [← hV, hL, hD]; exact run_enterLoop_outer _ _ _ _ _
  · simp only [resolve, hg]
    simp [go_sem]
  · simp [invoke, go_sem, eg]
  · refine (hseq V hVb (D + 1) (fun pre W => I pre W ∧ book .ready none W) (fun pre W => Ir pre W ∧ book .done (some .ret) W)
      (fun s A B h hs => ⟨hIs s A B h.1 hs, hbs h.2 hs⟩) (fun s A B h hs => ⟨hIrs s A B h.1 hs, hbs h.2 hs⟩) ?_ ⟨hIV, hbV⟩).mono ?_
    · rintro pre x W ⟨hi, hb⟩ hlen
      have hb' := hb
      rw [hbk] at hb'
      have hy := run_yield (P := P) (args := encs x) hb'.1 (by rw [hL]; exact hps x)
      rw [hL] at hy
      refine ⟨fn, _, assign, body, hy, roundIn_of_wpIn hfn (hassign _ x W _ ⟨_, run_beginRound hb'.1 (by rw [hL]), ?_⟩)⟩
      have e2 : ({ L .ready none with state := .busy } : Loop) = L .busy none := by rw [hL]
      rw [e2]
      have hb2 := hput .busy none hb
      refine wpIn_mono (hbody _ pre x _ (hIput _ hI hi hb) hlen) ?_
      have fin : ∀ (jump : Option Code) (W3 : World), book .busy none W3 →
          (Instr.endRound (D + 1) jump).run P W3 = .ok (.bool jump.isNone) (W3.putObj (D + 1) (.loop (L (if jump.isNone then .ready else .done) jump))) := by
        intro jump W3 h3
        rw [hbk] at h3
        have := run_endRound (P := P) jump h3.1
        rw [hL] at this ⊢
        exact this
      rintro e a3 W3 hp
      cases e with
      | normal =>
        obtain ⟨hk3, hkp, hi3⟩ := hp
        have hb3 := hkeep hb2 hk3
        exact ⟨_, _, fin none W3 hb3, .inl ⟨rfl, ⟨hIput _ hI hi3 hb3, hput _ _ hb3⟩, hKt (hKt (hKb _ _ _ (by omega)) hkp) (hKb _ _ _ (by omega))⟩⟩
      | ret =>
        obtain ⟨hk3, hi3⟩ := hp
        have hb3 := hkeep hb2 hk3
        exact ⟨_, _, fin (some .ret) W3 hb3, .inr ⟨rfl, hIput _ hIr hi3 hb3, hput _ _ hb3⟩⟩
      | exit id => exact hp.elim
      | goto t => exact hp.elim
      | panic ch => exact hp.elim
      | outgrown => exact hp.elim
    · rintro e W2 ⟨⟨v, rfl⟩, (⟨xs, hS, hi, hb⟩ | ⟨pre, hSp, hi, hb⟩)⟩
      · have hb' := hb
        rw [hbk] at hb'
        refine ⟨none, _, by have := run_endLoop (P := P) hb'.1 (by rw [hL]; simp); rw [hL] at this; exact this, hdone _ xs _ (by omega) hS (hIput _ hI hi hb) ((World.putObj_heap_other (by omega)).trans hb'.2)⟩
      · have hb' := hb
        rw [hbk] at hb'
        refine ⟨some .ret, _, by have := run_endLoop (P := P) hb'.1 (by rw [hL]; simp); rw [hL] at this; exact this, ?_⟩
        exact wpIn_ret (hstop _ pre _ (by omega) hSp (hIput _ hIr hi hb) ((World.putObj_heap_other (by omega)).trans hb'.2))
/-- A store into one box leaves another as it lay. -/
theorem box_other {W : World} {B B' : Nat} {t : TypeId} {v : Value} (h : Boxed W B t v) (hne : B ≠ B') (u : Value) : Boxed (W.setCell ⟨B', 0, none⟩ u) B t v := h.kept (grownBy_setCell' W B' u) (fun e => hne (by cases e; rfl))

/-! ### A region that draws its order, in a round: by the words that serve outside of rounds -/
theorem oper_round {P : Program} {l : Nat} {o : Oper} {a : Act} {w : World} {next : Act → World → Prop} {Q : Exit → Act → World → Prop} (hd : ∀ c, o.op ≠ .defer c)
    (h : o.wp P a w next Q) : o.wpIn (Fence.wide.inRound l) 0 P a w next Q := by
  refine ⟨fun _ _ => trivial, ?_⟩
  have e : o.semAt (Fence.wide.inRound l).round a.eval = execOp a.eval o := Oper.semAt_some l _ _ hd
  rw [e]
  unfold Oper.wp at h
  generalize (execOp a.eval o).run P w = r at *
  cases r with
  | ok x w' =>
    cases x with
    | value v => exact h
    | skip => exact h
    | defer d => exact h
    | enter f args => exact ⟨fun hh => by simp [Fence.wide] at hh, CallsIn.inRound l (callsIn_wide.2 h)⟩
    | row rw_ args =>
      refine ⟨fun hh => by simp [Fence.wide] at hh, fun c cs hr => ?_⟩
      obtain ⟨v, w2, hR, hs⟩ := h c cs
      exact ⟨v, w2, hR, (stepsIn_wide.2 hs : StepsIn (Machine.fenced P Fence.wide) P _ _)⟩
    | _ => exact h.elim
  | halt x w' => cases x <;> first | exact h | exact h.elim
theorem ops_round {P : Program} {l : Nat} {ops : Array Oper} {Q : Exit → Act → World → Prop} (hd : ∀ (i : Nat) (o : Oper) c, ops[i]? = some o → o.op ≠ .defer c) (hq : ¬ LetsOut Q) :
    ∀ (L : List Nat) (a : Act) (w : World), wpOps P ops Q L a w → wpOpsIn (Fence.wide.inRound l) 0 P ops Q L a w
  | [], _, _, h => h
  | i :: L, a, w, h => by
    unfold wpOps at h
    unfold wpOpsIn
    cases ho : ops[i]? with
    | none =>
      rw [ho] at h
      exact ops_round hd hq L a w h
    | some o =>
      rw [ho] at h
      simp only at h ⊢
      by_cases hw : Region.wanted o (yielded ops a.tmps) = true
      · rw [if_pos hw] at h ⊢
        rcases h with h | h
        · exact oper_round (fun c => hd i o c ho) (Oper.wp_mono (fun a w => ops_round hd hq L a w) h)
        · exact absurd h.2 hq
      · rw [if_neg hw] at h ⊢
        exact ⟨fun _ _ => trivial, ops_round hd hq L _ w h⟩
def noDefer (ops : Array Oper) : Bool := ops.all fun o => match o.op with | .defer _ => false | _ => true
theorem noDefer_spec {ops : Array Oper} (h : noDefer ops = true) (i : Nat) (o : Oper) (c : Call) (ho : ops[i]? = some o) : o.op ≠ .defer c := by
  intro e
  unfold noDefer at h
  rw [Array.all_eq_true] at h
  obtain ⟨hi, he⟩ := Array.getElem?_eq_some_iff.1 ho
  have := h i hi
  rw [he, e] at this
  cases this
theorem region_round {P : Program} {l id : Nat} {ops : Array Oper} {Q : Exit → Act → World → Prop} {a : Act} {w : World} (S : World → Prop) (hm : P.follows .mixedOrders = true) (hd : noDefer ops = true) (hq : ¬ LetsOut Q) (hS : S w.drew)
    (h : S w.drew → wpAnyH P .any ops Q S ops.size (Array.replicate ops.size false) a w.drew) : (Code.region id ops true).wpIn (Fence.wide.inRound l) 0 P Q a w :=
  wpIn_region_draw fun t => by
    simp only [Region.schedule, hm, Bool.true_or, if_true]
    exact ops_round (noDefer_spec hd) hq _ _ _ (wpAny_sound ops.size t _ a _ (wpAny_of_held _ _ _ _ (h hS)))
theorem region_round_any {P : Program} {l id : Nat} {ops : Array Oper} {Q : Exit → Act → World → Prop} {a : Act} {w : World} (hm : P.follows .mixedOrders = true) (hd : noDefer ops = true) (hq : ¬ LetsOut Q)
    (h : wpAny P .any ops Q ops.size (Array.replicate ops.size false) a w.drew) : (Code.region id ops true).wpIn (Fence.wide.inRound l) 0 P Q a w :=
  wpIn_region_draw fun t => by
    simp only [Region.schedule, hm, Bool.true_or, if_true]
    exact ops_round (noDefer_spec hd) hq _ _ _ (wpAny_sound ops.size t _ a _ h)

/-! ### A text's pieces between its signs c -/
def splitL (c : UInt8) : List UInt8 → List (List UInt8)
  | [] => [[]]
  | b :: l => if b = c then [] :: splitL c l else match splitL c l with
    | [] => [[b]]
    | x :: r => (b :: x) :: r
theorem splitL_cons (c b : UInt8) (l : List UInt8) : splitL c (b :: l) = if b = c then [] :: splitL c l else match splitL c l with
    | [] => [[b]]
    | x :: r => (b :: x) :: r := rfl
theorem splitL_ne (c : UInt8) (l : List UInt8) : splitL c l ≠ [] := by
  cases l with
  | nil => simp [splitL]
  | cons b l =>
    unfold splitL
    split
    · simp
    · split <;> simp
theorem splitL_length (c : UInt8) : ∀ l, (splitL c l).length = l.count c + 1
  | [] => by simp [splitL]
  | b :: l => by
    have ih := splitL_length c l
    unfold splitL
    by_cases h : b = c
    · rw [if_pos h, List.length_cons, ih, h, List.count_cons_self]
    · rw [if_neg h, List.count_cons_of_ne h]
      cases hs : splitL c l with
      | nil => exact absurd hs (splitL_ne c l)
      | cons x r => rw [hs] at ih; simpa using ih
theorem splitL_none (c : UInt8) : ∀ l, Lib.indexByte l c = -1 → splitL c l = [l]
  | [], _ => rfl
  | b :: l, h => by
    unfold Lib.indexByte at h
    by_cases hb : b = c
    · simp [hb] at h
    · have hb' : (b == c) = false := by simpa using hb
      rw [hb'] at h
      have g := Lib.indexByte_ge l c
      by_cases hl : Lib.indexByte l c = -1
      · unfold splitL
        rw [if_neg hb, splitL_none c l hl]
      · have hl' : (Lib.indexByte l c == -1) = false := by simpa using hl
        rw [hl'] at h
        simp at h
        omega
theorem splitL_some (c : UInt8) : ∀ l (i : Nat), Lib.indexByte l c = (i : Int) → splitL c l = l.take i :: splitL c (l.drop (i + 1))
  | [], i, h => by simp [Lib.indexByte] at h
  | b :: l, i, h => by
    unfold Lib.indexByte at h
    by_cases hb : b = c
    · simp [hb] at h
      obtain rfl : i = 0 := by omega
      simp [splitL, hb]
    · have hb' : (b == c) = false := by simpa using hb
      rw [hb'] at h
      have g := Lib.indexByte_ge l c
      by_cases hl : Lib.indexByte l c = -1
      · simp [hl] at h
      · have hl' : (Lib.indexByte l c == -1) = false := by simpa using hl
        rw [hl'] at h
        simp at h
        obtain ⟨j, rfl⟩ : ∃ j, i = j + 1 := ⟨i - 1, by omega⟩
        have ih := splitL_some c l j (by omega)
        rw [splitL_cons, if_neg hb, ih]
        rfl
def splitB (c : UInt8) (s : ByteArray) : List ByteArray := (splitL c s.data.toList).map fun l => ⟨l.toArray⟩
theorem splitB_ne (c : UInt8) (s : ByteArray) : splitB c s ≠ [] := by
  unfold splitB
  intro h
  exact splitL_ne c _ (List.map_eq_nil_iff.1 h)
theorem splitB_length (c : UInt8) (s : ByteArray) : (splitB c s).length = s.data.toList.count c + 1 := by
  unfold splitB
  rw [List.length_map, splitL_length]
theorem splitB_none (c : UInt8) (s : ByteArray) (h : Lib.indexByte s.data.toList c = -1) : splitB c s = [s] := by
  unfold splitB
  rw [splitL_none c _ h]
  rfl
theorem splitB_some (c : UInt8) (s : ByteArray) (i : Nat) (h : Lib.indexByte s.data.toList c = (i : Int)) : splitB c s = s.extract 0 i :: splitB c (s.extract (i + 1) s.size) := by
  unfold splitB
  rw [splitL_some c _ i h, List.map_cons, Lib.extract_eq, Lib.extract_eq]
  congr 3
  have e : (List.drop (i + 1) s.data.toList).take (s.size - (i + 1)) = List.drop (i + 1) s.data.toList := List.take_of_length_le (by rw [List.length_drop, Array.length_toList]; exact Nat.le_refl _)
  rw [e]
theorem indexByte_less : ∀ (l : List UInt8) (c : UInt8), Lib.indexByte l c < (l.length : Int)
  | [], _ => by simp [Lib.indexByte]
  | b :: l, c => by
    have := indexByte_less l c
    have g := Lib.indexByte_ge l c
    unfold Lib.indexByte
    split
    · simp; try omega
    · split
      · simp; try omega
      · simp; omega
end Go.Proofs.YtamgobcahgcejaaDoorSeq
