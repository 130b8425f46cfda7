/- The plain law of GlobTells: what glob answers of a policy is what the document's own text answers; no program in sight. -/
import Derived.Test.YtppndhbeglcioaaPlMt
import Derived.Test.YtppndhbeglcioaaGAx10
import Derived.Test.YtppndhbeglcioaaGAx13
import Derived.Test.YtppndhbeglcioaaGAx17
import Derived.Test.YtppndhbeglcioaaGAx25
import Derived.Test.YtppndhbeglcioaaMadeV
namespace Go.Proofs.Ytppndhbeglcioaa.Pl
open Go.RowKit Go.Proofs.YtppndhbeglcioaaUniq Go.Proofs.Ytppndhbeglcioaa.GA Go.Proofs.YtppndhbeglcioaaW.PrintWords Go.Proofs.YtppndhbeglcioaaW.PrintLast Go.Proofs.YtppndhbeglcioaaW.PrintMore
set_option linter.unusedVariables false
set_option linter.unusedSimpArgs false
/-- A row of texts that a machine can hold. -/
def Fit (l : List ByteArray) : Prop := l.length < 4611686018427387904 ∧ ∀ s ∈ l, s.size < 4611686018427387904
def FitG (x : S36) : Prop := Fit x.f1
def FitS (x : S34) : Prop := Fit x.f2 ∧ Fit x.f3 ∧ Fit x.f4 ∧ Fit x.f5
def FitB (x : S51) : Prop := Fit x.f1 ∧ Fit x.f2
def FitP (l0 l1 l2 : List ByteArray) (l3 : List S36) (l4 : List S34) (l5 : List S51) : Prop :=
 Fit l0 ∧ Fit l1 ∧ Fit l2 ∧ (l3.length < 4611686018427387904 ∧ ∀ x ∈ l3, FitG x) ∧ (l4.length < 4611686018427387904 ∧ ∀ x ∈ l4, FitS x) ∧ (l5.length < 4611686018427387904 ∧ ∀ x ∈ l5, FitB x)
def has (l : List ByteArray) (x : ByteArray) : Bool := l.any fun y => decide (y.toList = x.toList)
theorem idx_l0 (l : List ByteArray) (x : ByteArray) (hl : l.length < 4611686018427387904) : ∀ (d i : Nat), l.length - i = d → i ≤ l.length → ∃ r : Int, Ev (fun k => slices_Index_string_string.l0 k l x (l.length : Int) (i : Int)) r ∧ decide (r ≥ 0) = has (l.drop i) x
 | 0, i, hd, hi => by
  refine ⟨-1, Ev.step (g := fun _ => some (-1)) (fun k => ?_) (Ev.pure _), ?_⟩
  ·unfold slices_Index_string_string.l0
   rw [if_neg (by omega)]
  ·rw [List.drop_eq_nil_of_le (by omega)]; rfl
 | d + 1, i, hd, hi => by
  have h : i < l.length := by omega
  have e : ∀ k, slices_Index_string_string.l0 (k + 1) l x (l.length : Int) (i : Int) = if x.toList = l[i].toList then some (i : Int) else slices_Index_string_string.l0 k l x (l.length : Int) ((i + 1 : Nat) : Int) := by
   intro k
   conv => lhs; unfold slices_Index_string_string.l0
   rw [if_pos (by omega), if_pos (by omega), if_pos (by omega), rd_S l i h, nat_wrap1 (by omega)]
  rw [List.drop_eq_getElem_cons h]
  by_cases hx : x.toList = l[i].toList
  ·refine ⟨(i : Int), Ev.step (g := fun _ => some (i : Int)) (fun k => by rw [e k, if_pos hx]) (Ev.pure _), ?_⟩
   unfold has
   rw [List.any_cons, decide_eq_true hx.symm, Bool.true_or]
   exact decide_eq_true (by omega)
  ·obtain ⟨r, hr, hq⟩ := idx_l0 l x hl d (i + 1) (by omega) (by omega)
   refine ⟨r, Ev.step (fun k => by rw [e k, if_neg hx]) hr, ?_⟩
   rw [show has (l[i] :: l.drop (i + 1)) x = (decide (l[i].toList = x.toList) || has (l.drop (i + 1)) x) from rfl, decide_eq_false (fun hh : l[i].toList = x.toList => hx hh.symm), Bool.false_or]
   exact hq
theorem contains_ev (l : List ByteArray) (x : ByteArray) (hl : l.length < 4611686018427387904) : Ev (fun k => slices_Contains_string_string.f k l x) (has l x) := by
 obtain ⟨r, hr, hq⟩ := idx_l0 l x hl l.length 0 (by omega) (by omega)
 rw [List.drop_zero] at hq
 refine Ev.congr (g := fun k => (slices_Index_string_string.l0 k l x (l.length : Int) 0).bind fun t => some (decide (t ≥ 0))) (fun k => rfl) (Ev.bind hr ?_)
 rw [← hq]
 exact Ev.pure _
/-! ### Patterns -/
def mtB (p x : ByteArray) : Bool := mt p.data.toList x.data.toList
def anyM (l : List ByteArray) (x : ByteArray) : Bool := l.any fun p => mtB p x
theorem size_data (s : ByteArray) : s.data.toList.length = s.size := by rw [Array.length_toList]; rfl
theorem matches_B (l : List ByteArray) (x : ByteArray) (hl : Fit l) (hx : x.size < 4611686018427387904) : glob_matches.f l x = some (anyM l x) := by
 have := matches_f (l.map (·.data.toList)) x.data.toList (fun p hp => by obtain ⟨s, hs, rfl⟩ := List.mem_map.1 hp; have := hl.2 s hs; rw [size_data]; exact this) (by rw [size_data]; exact hx)
 rw [map_B, B_of, List.any_map] at this
 exact this
theorem Match_B (p x : ByteArray) (hp : p.size < 4611686018427387904) (hx : x.size < 4611686018427387904) : glob_Match.f p x = some (mtB p x) := by
 have := Match_f p.data.toList x.data.toList (by rw [size_data]; exact hp) (by rw [size_data]; exact hx)
 rwa [B_of, B_of] at this
/-! ### Over -/
/-! ### In a group -/
def inn (g : List S36) (u n : ByteArray) : Bool := g.any fun x => decide (x.f0.toList = n.toList) && has x.f1 u
theorem anyO_ev {α : Type} (F : Nat → α → Option Bool) (p : α → Bool) : ∀ (l : List α), (∀ x ∈ l, Ev (fun k => F k x) (p x)) → Ev (fun k => anyO (F k) l) (l.any p)
 | [], _ => Ev.pure _
 | x :: l, h => by
  rw [List.any_cons]
  refine Ev.congr (g := fun k => (F k x).bind fun b => if b = true then some true else anyO (F k) l) (fun k => rfl) (Ev.bind (h x List.mem_cons_self) ?_)
  cases p x with
  | true => exact Ev.pure _
  | false => exact anyO_ev F p l (fun y hy => h y (List.mem_cons_of_mem _ hy))
theorem gin_ev (l0 l1 l2 : List ByteArray) (l3 : List S36) (l4 : List S34) (l5 : List S51) (u n : ByteArray) (hg : ∀ x ∈ l3, FitG x) : Ev (fun k => glob_In.f k l0 l1 l2 l3 l4 l5 u n) (inn l3 u n) := by
 refine anyO_ev (fun k => in_one k u n) _ l3 (fun x hx => ?_)
 unfold in_one
 by_cases h : x.f0.toList = n.toList
 ·rw [decide_eq_true h, Bool.true_and]
  exact Ev.congr (fun k => if_pos (beq_iff_eq.2 h)) (contains_ev _ _ (hg x hx).1)
 ·rw [decide_eq_false h, Bool.false_and]
  exact Ev.congr (g := fun _ => some false) (fun k => if_neg (fun hh => h (beq_iff_eq.1 hh))) (Ev.pure _)
theorem rd36 (X : List S36) (i : Nat) (h : i < X.length) : rd_T36 X (i : Int) = X[i] := by
 unfold rd_T36
 rw [Int.toNat_natCast, List.getD_eq_getElem?_getD, List.getElem?_eq_getElem h]; rfl
theorem rd34 (X : List S34) (i : Nat) (h : i < X.length) : rd_T34 X (i : Int) = X[i] := by
 unfold rd_T34
 rw [Int.toNat_natCast, List.getD_eq_getElem?_getD, List.getElem?_eq_getElem h]; rfl
theorem rd51 (X : List S51) (i : Nat) (h : i < X.length) : rd_T51 X (i : Int) = X[i] := by
 unfold rd_T51
 rw [Int.toNat_natCast, List.getD_eq_getElem?_getD, List.getElem?_eq_getElem h]; rfl
/-! ### May -/
def whoB (g : List S36) (s : S34) (u : ByteArray) : Bool := has s.f2 u || s.f3.any fun n => inn g u n
def bear (g : List S36) (s : S34) (u a r : ByteArray) : Bool := whoB g s u && (anyM s.f4 a && anyM s.f5 r)
theorem bears_ev (l0 l1 l2 : List ByteArray) (l3 : List S36) (l4 : List S34) (l5 : List S51) (s : S34) (u a r : ByteArray) (hs : FitS s) (hg : ∀ x ∈ l3, FitG x) (ha : a.size < 4611686018427387904) (hr : r.size < 4611686018427387904) :
  Ev (fun k => glob_bears.f k l0 l1 l2 l3 l4 l5 s.f0 s.f1 s.f2 s.f3 s.f4 s.f5 u a r) (bear l3 s u a r) := by
 have hw : Ev (fun k => bears_who k l0 l1 l2 l3 l4 l5 s.f2 s.f3 u) (whoB l3 s u) := by
  unfold bears_who whoB
  refine Ev.bind (contains_ev _ _ hs.1.1) ?_
  cases has s.f2 u with
  | true => exact Ev.pure _
  | false => exact anyO_ev (fun k g => glob_In.f k l0 l1 l2 l3 l4 l5 u g) _ s.f3 (fun x hx => gin_ev l0 l1 l2 l3 l4 l5 u x hg)
 unfold glob_bears.f bear
 refine Ev.bind hw ?_
 cases whoB l3 s u with
 | false => exact Ev.pure _
 | true =>
  rw [matches_B _ _ hs.2.2.1 ha, matches_B _ _ hs.2.2.2 hr]
  refine Ev.congr (g := fun _ => some (true && (anyM s.f4 a && anyM s.f5 r))) (fun k => ?_) (Ev.pure _)
  cases anyM s.f4 a <;> rfl
def hit (b : S51) (a r : ByteArray) : Bool := anyM b.f1 a && anyM b.f2 r
/-- The boundaries: one is the user's (some), one of those lets it through. -/
def bnd (l : List S51) (u a r : ByteArray) (sm : Bool) : Bool := l.any (fun b => decide (b.f0.toList = u.toList) && hit b a r) || !(sm || l.any fun b => decide (b.f0.toList = u.toList))
theorem bounded_l0 (l5 : List S51) (u a r : ByteArray) (hl : l5.length < 4611686018427387904) (hb : ∀ x ∈ l5, FitB x) (ha : a.size < 4611686018427387904) (hr : r.size < 4611686018427387904) : ∀ (d i : Nat) (c : Bool), l5.length - i = d → i ≤ l5.length →
  Ev (fun k => glob_bounded.l0 k u a r c l5 (l5.length : Int) (i : Int)) (bnd (l5.drop i) u a r c)
 | 0, i, c, hd, hi => by
  rw [List.drop_eq_nil_of_le (by omega)]
  refine Ev.step (g := fun _ => some (bnd [] u a r c)) (fun k => ?_) (Ev.pure _)
  unfold glob_bounded.l0
  rw [if_neg (by omega)]
  cases c <;> rfl
 | d + 1, i, c, hd, hi => by
  have h : i < l5.length := by omega
  have ej : ∀ k b, glob_bounded.j1 (k + 1) u a r l5 (l5.length : Int) (i : Int) b = if b = true then some true else glob_bounded.l0 k u a r true l5 (l5.length : Int) ((i + 1 : Nat) : Int) := by
   intro k b
   conv => lhs; unfold glob_bounded.j1
   rw [nat_wrap1 (by omega)]
  have hf := hb _ (List.getElem_mem h)
  have e : ∀ k, glob_bounded.l0 (k + 1) u a r c l5 (l5.length : Int) (i : Int) = if l5[i].f0.toList = u.toList then glob_bounded.j1 k u a r l5 (l5.length : Int) (i : Int) (hit l5[i] a r) else glob_bounded.l0 k u a r c l5 (l5.length : Int) ((i + 1 : Nat) : Int) := by
   intro k
   conv => lhs; unfold glob_bounded.l0
   rw [if_pos (by omega), if_pos (by omega), if_pos (by omega), rd51 l5 i h, nat_wrap1 (by omega), matches_B _ _ hf.1 ha, matches_B _ _ hf.2 hr]
   unfold hit
   cases anyM l5[i].f1 a <;> rfl
  rw [List.drop_eq_getElem_cons h]
  by_cases hx : l5[i].f0.toList = u.toList
  ·refine Ev.step (fun k => by rw [e k, if_pos hx]) ?_
   unfold bnd
   simp only [List.any_cons]
   rw [decide_eq_true hx, Bool.true_and, Bool.true_or, Bool.or_true]
   cases hh : hit l5[i] a r with
   | true => exact Ev.step (g := fun _ => some true) (fun k => by rw [ej k, if_pos rfl]) (Ev.pure _)
   | false =>
    refine Ev.step (fun k => by rw [ej k, if_neg (by decide)]) ?_
    have := bounded_l0 l5 u a r hl hb ha hr d (i + 1) true (by omega) (by omega)
    unfold bnd at this
    rwa [Bool.true_or] at this
  ·refine Ev.step (fun k => by rw [e k, if_neg hx]) ?_
   have := bounded_l0 l5 u a r hl hb ha hr d (i + 1) c (by omega) (by omega)
   unfold bnd at this ⊢
   simp only [List.any_cons]
   rw [decide_eq_false hx, Bool.false_and, Bool.false_or, Bool.false_or]
   exact this
/-- The statements, one by one. -/
def mayL (g : List S36) (u a r : ByteArray) (z : Bool) : Bool → List S34 → Bool
 | c, [] => c && z
 | c, s :: t => if bear g s u a r = true then (if s.f1 = true then false else mayL g u a r z true t) else mayL g u a r z c t
def may (l0 l1 l2 : List ByteArray) (l3 : List S36) (l4 : List S34) (l5 : List S51) (u a r : ByteArray) : Bool := has l0 u && (has l1 a && (has l2 r && mayL l3 u a r (bnd l5 u a r false) false l4))
theorem bounded_ev (l0 l1 l2 : List ByteArray) (l3 : List S36) (l4 : List S34) (l5 : List S51) (u a r : ByteArray) (hl : l5.length < 4611686018427387904) (hb : ∀ x ∈ l5, FitB x) (ha : a.size < 4611686018427387904) (hr : r.size < 4611686018427387904) :
  Ev (fun k => glob_bounded.f k l0 l1 l2 l3 l4 l5 u a r) (bnd l5 u a r false) := bounded_l0 l5 u a r hl hb ha hr l5.length 0 false (by omega) (by omega)
theorem may_l0 (l0 l1 l2 : List ByteArray) (l3 : List S36) (l4 : List S34) (l5 : List S51) (u a r : ByteArray) (hP : FitP l0 l1 l2 l3 l4 l5) (ha : a.size < 4611686018427387904) (hr : r.size < 4611686018427387904) : ∀ (d i : Nat) (c : Bool), l4.length - i = d → i ≤ l4.length →
  Ev (fun k => glob_May.l0 k u a r c l4 (l4.length : Int) (i : Int) l0 l1 l2 l3 l4 l5) (mayL l3 u a r (bnd l5 u a r false) c (l4.drop i))
 | 0, i, c, hd, hi => by
  rw [List.drop_eq_nil_of_le (by omega)]
  unfold mayL
  cases c with
  | false =>
   refine Ev.step (g := fun _ => some false) (fun k => ?_) (Ev.pure _)
   unfold glob_May.l0
   rw [if_neg (by omega), if_neg (by decide)]
  | true =>
   refine Ev.step (g := fun k => (glob_bounded.f k l0 l1 l2 l3 l4 l5 u a r).bind fun t => some t) (fun k => ?_) (Ev.bind (bounded_ev l0 l1 l2 l3 l4 l5 u a r hP.2.2.2.2.2.1 hP.2.2.2.2.2.2 ha hr) (Ev.pure _))
   unfold glob_May.l0
   rw [if_neg (by omega), if_pos rfl]
 | d + 1, i, c, hd, hi => by
  have h : i < l4.length := by omega
  have hl := hP.2.2.2.2.1.1
  have hs := hP.2.2.2.2.1.2 _ (List.getElem_mem h)
  have e : ∀ k, glob_May.l0 (k + 1) u a r c l4 (l4.length : Int) (i : Int) l0 l1 l2 l3 l4 l5 = (glob_bears.f k l0 l1 l2 l3 l4 l5 l4[i].f0 l4[i].f1 l4[i].f2 l4[i].f3 l4[i].f4 l4[i].f5 u a r).bind fun t => if t = true then (if l4[i].f1 = true then some false else glob_May.l0 k u a r true l4 (l4.length : Int) ((i + 1 : Nat) : Int) l0 l1 l2 l3 l4 l5) else glob_May.l0 k u a r c l4 (l4.length : Int) ((i + 1 : Nat) : Int) l0 l1 l2 l3 l4 l5 := by
   intro k
   conv => lhs; unfold glob_May.l0
   rw [if_pos (by omega), if_pos (by omega), if_pos (by omega), rd34 l4 i h, nat_wrap1 (by omega)]
  rw [List.drop_eq_getElem_cons h]
  unfold mayL
  refine Ev.step e (Ev.bind (bears_ev l0 l1 l2 l3 l4 l5 l4[i] u a r hs hP.2.2.2.1.2 ha hr) ?_)
  by_cases hb : bear l3 l4[i] u a r = true
  ·rw [hb, if_pos rfl]
   refine Ev.congr (fun k => if_pos rfl) ?_
   by_cases hd1 : l4[i].f1 = true
   ·rw [if_pos hd1]
    exact Ev.congr (fun k => if_pos hd1) (Ev.pure _)
   ·rw [if_neg hd1]
    exact Ev.congr (fun k => if_neg hd1) (may_l0 l0 l1 l2 l3 l4 l5 u a r hP ha hr d (i + 1) true (by omega) (by omega))
  ·rw [if_neg hb]
   exact Ev.congr (fun k => if_neg hb) (may_l0 l0 l1 l2 l3 l4 l5 u a r hP ha hr d (i + 1) c (by omega) (by omega))
theorem may_ev (l0 l1 l2 : List ByteArray) (l3 : List S36) (l4 : List S34) (l5 : List S51) (u a r : ByteArray) (hP : FitP l0 l1 l2 l3 l4 l5) (ha : a.size < 4611686018427387904) (hr : r.size < 4611686018427387904) :
  Ev (fun k => glob_May.f k l0 l1 l2 l3 l4 l5 u a r) (may l0 l1 l2 l3 l4 l5 u a r) := by
 unfold glob_May.f may
 have jf : Ev (fun k => glob_May.j0 k u a r true l0 l1 l2 l3 l4 l5) false := Ev.step (g := fun _ => some false) (fun k => by unfold glob_May.j0; dsimp only; rw [if_pos rfl]) (Ev.pure _)
 refine Ev.bind (contains_ev l0 u hP.1.1) ?_
 cases has l0 u with
 | false => exact jf
 | true =>
  refine Ev.congr (fun k => if_pos rfl) (Ev.bind (contains_ev l1 a hP.2.1.1) ?_)
  cases has l1 a with
  | false => exact jf
  | true =>
   refine Ev.congr (fun k => if_pos rfl) (Ev.bind (contains_ev l2 r hP.2.2.1.1) ?_)
   cases has l2 r with
   | false => exact jf
   | true => exact Ev.step (fun k => by unfold glob_May.j0; dsimp only; rw [if_neg (by decide)]; rfl) (may_l0 l0 l1 l2 l3 l4 l5 u a r hP ha hr l4.length 0 false (by omega) (by omega))
/-! ### The policy of numbers, the question of a number -/
def fitB (l : List ByteArray) : Bool := decide (l.length ≤ 8) && l.all fun s => decide (s.size ≤ 8)
theorem fit_of {l : List ByteArray} (h : fitB l = true) : Fit l ∧ l.length ≤ 8 ∧ ∀ s ∈ l, s.size ≤ 8 := by
 unfold fitB at h
 rw [Bool.and_eq_true, List.all_eq_true] at h
 have h1 := of_decide_eq_true h.1
 have h2 : ∀ s ∈ l, s.size ≤ 8 := fun s hs => of_decide_eq_true (h.2 s hs)
 exact ⟨⟨by omega, fun s hs => by have := h2 s hs; omega⟩, h1, h2⟩
theorem rd_small {l : List ByteArray} (h : fitB l = true) (i : Int) : (rdOf ByteArray.empty l i).size ≤ 8 := by
 unfold rdOf
 rw [List.getD_eq_getElem?_getD]
 cases hh : l[i.toNat]? with
 | none => simp
 | some s => exact (fit_of h).2.2 s (List.mem_of_getElem? hh)
theorem u64_nonneg (x : Int) : 0 ≤ IntKind.u64.wrap x := by
 unfold IntKind.wrap
 simp only [IntKind.signed, IntKind.bits]
 first | omega | exact Int.emod_nonneg _ (by decide)
theorem made_end (l : List Int) (i : Nat) (p0 p1 p2 : List ByteArray) (p3 : List S36) (st : List S34) (bo : List S51) : Ev (fun k => entaillaw23_Made.j1 k l (i : Int) false p0 p1 p2 p3 st bo) (p0, p1, p2, p3, st, bo) := by
 refine Ev.step (g := fun _ => some (p0, p1, p2, p3, st, bo)) (fun k => ?_) (Ev.pure _)
 conv => lhs; unfold entaillaw23_Made.j1
 rw [if_neg (by decide)]
theorem ask_f (n : Int) : ∃ a b c : ByteArray, entaillaw24_Ask.f n = some (false, a, b, c) ∧ a.size ≤ 8 ∧ b.size ≤ 8 ∧ c.size ≤ 8 := by
 have h1 : 0 ≤ Go.bits .and .i64 (n) 3 ∧ Go.bits .and .i64 (n) 3 ≤ 3 := and_small (n) 3 (by decide)
 have h2 : 0 ≤ Int.tmod (Go.bits .and .i64 (n / 4) 255) 5 ∧ Int.tmod (Go.bits .and .i64 (n / 4) 255) 5 < 5 := and_mod (n / 4) 5 (by decide)
 have h3 : 0 ≤ Go.bits .and .i64 (n / 1024) 3 ∧ Go.bits .and .i64 (n / 1024) 3 ≤ 3 := and_small (n / 1024) 3 (by decide)
 refine ⟨_, _, _, ?_, rd_small (l := ([(⟨#[117]⟩ : ByteArray), (⟨#[118]⟩ : ByteArray), (⟨#[119]⟩ : ByteArray), (⟨#[120]⟩ : ByteArray)] : List ByteArray)) (by decide) (Go.bits .and .i64 n 3), rd_small (l := ([(⟨#[103, 101, 116]⟩ : ByteArray), (⟨#[103, 101, 116, 97, 108, 108]⟩ : ByteArray), (⟨#[112, 117, 116]⟩ : ByteArray), (⟨#[108, 105, 115, 116]⟩ : ByteArray), (⟨#[122]⟩ : ByteArray)] : List ByteArray)) (by decide) (Int.tmod (Go.bits .and .i64 (n / 4) 255) 5), rd_small (l := ([(⟨#[97]⟩ : ByteArray), (⟨#[97, 98]⟩ : ByteArray), (⟨#[98]⟩ : ByteArray), (⟨#[99]⟩ : ByteArray)] : List ByteArray)) (by decide) (Go.bits .and .i64 (n / 1024) 3)⟩
 unfold entaillaw24_Ask.f
 rw [Option.bind_some, if_pos h1.1, if_pos (by have := h1.2; simp only [List.length_cons, List.length_nil]; omega), Option.bind_some, if_pos h2.1, if_pos (by have := h2.2; simp only [List.length_cons, List.length_nil]; omega), Option.bind_some, if_pos h3.1, if_pos (by have := h3.2; simp only [List.length_cons, List.length_nil]; omega)]
/-! ### GlobTells -/
theorem awake_ev : Ev (fun k => entaillaw24_awake.f k) true := Ev.mono (fun k => entaillaw24_awake.mono k) (K := 60) (by decide +kernel)
end Go.Proofs.Ytppndhbeglcioaa.Pl
