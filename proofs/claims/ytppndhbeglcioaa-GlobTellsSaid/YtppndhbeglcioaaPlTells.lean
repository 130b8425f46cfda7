/- The plain law of GlobTells: what glob answers of a policy is what the document's own text answers; no program in sight. -/
import Derived.Test.YtppndhbeglcioaaPlGlob
import Derived.Test.YtppndhbeglcioaaTells33
namespace Go.Proofs.Ytppndhbeglcioaa.Pl
open Go.RowKit Go.Proofs.YtppndhbeglcioaaUniq Go.Proofs.Ytppndhbeglcioaa.GA Go.Proofs.YtppndhbeglcioaaW.PrintWords Go.Proofs.YtppndhbeglcioaaW.PrintLast Go.Proofs.YtppndhbeglcioaaW.PrintMore
set_option linter.unusedVariables false
set_option linter.unusedSimpArgs false
/-- A row of texts that a machine can hold. -/
def Fit (l : List ByteArray) : Prop := l.length < 4611686018427387904 ∧ ∀ s ∈ l, s.size < 4611686018427387904
def FitG (x : S36) : Prop := Fit x.f1
def FitS (x : S34) : Prop := Fit x.f2 ∧ Fit x.f3 ∧ Fit x.f4 ∧ Fit x.f5
def FitB (x : S51) : Prop := Fit x.f1 ∧ Fit x.f2
def FitP (l0 l1 l2 : List ByteArray) (l3 : List S36) (l4 : List S34) (l5 : List S51) : Prop :=
 Fit l0 ∧ Fit l1 ∧ Fit l2 ∧ (l3.length < 4611686018427387904 ∧ ∀ x ∈ l3, FitG x) ∧ (l4.length < 4611686018427387904 ∧ ∀ x ∈ l4, FitS x) ∧ (l5.length < 4611686018427387904 ∧ ∀ x ∈ l5, FitB x)
def has (l : List ByteArray) (x : ByteArray) : Bool := l.any fun y => decide (y.toList = x.toList)
theorem idx_l0 (l : List ByteArray) (x : ByteArray) (hl : l.length < 4611686018427387904) : ∀ (d i : Nat), l.length - i = d → i ≤ l.length → ∃ r : Int, Ev (fun k => slices_Index_string_string.l0 k l x (l.length : Int) (i : Int)) r ∧ decide (r ≥ 0) = has (l.drop i) x
 | 0, i, hd, hi => by
  refine ⟨-1, Ev.step (g := fun _ => some (-1)) (fun k => ?_) (Ev.pure _), ?_⟩
  ·unfold slices_Index_string_string.l0
   rw [if_neg (by omega)]
  ·rw [List.drop_eq_nil_of_le (by omega)]; rfl
 | d + 1, i, hd, hi => by
  have h : i < l.length := by omega
  have e : ∀ k, slices_Index_string_string.l0 (k + 1) l x (l.length : Int) (i : Int) = if x.toList = l[i].toList then some (i : Int) else slices_Index_string_string.l0 k l x (l.length : Int) ((i + 1 : Nat) : Int) := by
   intro k
   conv => lhs; unfold slices_Index_string_string.l0
   rw [if_pos (by omega), if_pos (by omega), if_pos (by omega), rd_S l i h, nat_wrap1 (by omega)]
  rw [List.drop_eq_getElem_cons h]
  by_cases hx : x.toList = l[i].toList
  ·refine ⟨(i : Int), Ev.step (g := fun _ => some (i : Int)) (fun k => by rw [e k, if_pos hx]) (Ev.pure _), ?_⟩
   unfold has
   rw [List.any_cons, decide_eq_true hx.symm, Bool.true_or]
   exact decide_eq_true (by omega)
  ·obtain ⟨r, hr, hq⟩ := idx_l0 l x hl d (i + 1) (by omega) (by omega)
   refine ⟨r, Ev.step (fun k => by rw [e k, if_neg hx]) hr, ?_⟩
   rw [show has (l[i] :: l.drop (i + 1)) x = (decide (l[i].toList = x.toList) || has (l.drop (i + 1)) x) from rfl, decide_eq_false (fun hh : l[i].toList = x.toList => hx hh.symm), Bool.false_or]
   exact hq
theorem contains_ev (l : List ByteArray) (x : ByteArray) (hl : l.length < 4611686018427387904) : Ev (fun k => slices_Contains_string_string.f k l x) (has l x) := by
 obtain ⟨r, hr, hq⟩ := idx_l0 l x hl l.length 0 (by omega) (by omega)
 rw [List.drop_zero] at hq
 refine Ev.congr (g := fun k => (slices_Index_string_string.l0 k l x (l.length : Int) 0).bind fun t => some (decide (t ≥ 0))) (fun k => rfl) (Ev.bind hr ?_)
 rw [← hq]
 exact Ev.pure _
theorem in_l0 (l : List ByteArray) (x : ByteArray) (hl : l.length < 4611686018427387904) : ∀ (d i : Nat), l.length - i = d → i ≤ l.length → Ev (fun k => entailref22_In.l0 k l x (i : Int)) (has (l.drop i) x)
 | 0, i, hd, hi => by
  rw [List.drop_eq_nil_of_le (by omega)]
  refine Ev.step (g := fun _ => some false) (fun k => ?_) (Ev.pure _)
  unfold entailref22_In.l0
  rw [if_neg (by omega)]
 | d + 1, i, hd, hi => by
  have h : i < l.length := by omega
  have e : ∀ k, entailref22_In.l0 (k + 1) l x (i : Int) = if l[i].toList = x.toList then some true else entailref22_In.l0 k l x ((i + 1 : Nat) : Int) := by
   intro k
   conv => lhs; unfold entailref22_In.l0
   rw [if_pos (by omega), if_pos (by omega), rd_S l i h, nat_wrap1 (by omega)]
  rw [List.drop_eq_getElem_cons h]
  unfold has
  rw [List.any_cons]
  by_cases hx : l[i].toList = x.toList
  ·rw [decide_eq_true hx, Bool.true_or]
   exact Ev.step (g := fun _ => some true) (fun k => by rw [e k, if_pos hx]) (Ev.pure _)
  ·rw [decide_eq_false hx, Bool.false_or]
   exact Ev.step (fun k => by rw [e k, if_neg hx]) (in_l0 l x hl d (i + 1) (by omega) (by omega))
theorem in_ev (l : List ByteArray) (x : ByteArray) (hl : l.length < 4611686018427387904) : Ev (fun k => entailref22_In.f k l x) (has l x) := in_l0 l x hl l.length 0 (by omega) (by omega)
/-! ### Patterns -/
def mtB (p x : ByteArray) : Bool := mt p.data.toList x.data.toList
def anyM (l : List ByteArray) (x : ByteArray) : Bool := l.any fun p => mtB p x
theorem size_data (s : ByteArray) : s.data.toList.length = s.size := by rw [Array.length_toList]; rfl
theorem matches_B (l : List ByteArray) (x : ByteArray) (hl : Fit l) (hx : x.size < 4611686018427387904) : glob_matches.f l x = some (anyM l x) := by
 have := matches_f (l.map (·.data.toList)) x.data.toList (fun p hp => by obtain ⟨s, hs, rfl⟩ := List.mem_map.1 hp; have := hl.2 s hs; rw [size_data]; exact this) (by rw [size_data]; exact hx)
 rw [map_B, B_of, List.any_map] at this
 exact this
theorem Match_B (p x : ByteArray) (hp : p.size < 4611686018427387904) (hx : x.size < 4611686018427387904) : glob_Match.f p x = some (mtB p x) := by
 have := Match_f p.data.toList x.data.toList (by rw [size_data]; exact hp) (by rw [size_data]; exact hx)
 rwa [B_of, B_of] at this
theorem rmatch_ev (p x : ByteArray) (hp : p.size < 4611686018427387904) (hx : x.size < 4611686018427387904) : Ev (fun k => entailref22_Match.f k p x) (mtB p x) := by
 obtain ⟨a, rfl⟩ : ∃ a, p = B a := ⟨p.data.toList, (B_of p).symm⟩
 obtain ⟨b, rfl⟩ : ∃ b, x = B b := ⟨x.data.toList, (B_of x).symm⟩
 unfold mtB mt
 rw [B_list, B_list]
 rw [B_size] at hp hx
 by_cases h0 : a = []
 ·subst h0
  refine Ev.step (g := fun _ => some (([] : List UInt8) == b)) (fun k => ?_) (Ev.pure _)
  unfold entailref22_Match.f
  rw [if_neg (by rw [B_size]; simp)]
  unfold entailref22_Match.j0
  dsimp only
  rw [if_neg (by decide), B_toList, B_toList]
 ·have hpos : 0 < a.length := List.length_pos_iff.2 h0
  have hw : wrap64 (((B a).size : Int) - 1) = ((a.length - 1 : Nat) : Int) := by rw [B_size, wrap_small (by omega) (by omega)]; omega
  have hlast : a.getLast? = some (a.getD (a.length - 1) 0) := by
   rw [List.getLast?_eq_getElem?, List.getD_eq_getElem?_getD, List.getElem?_eq_getElem (by omega)]; rfl
  have hbt : (bt (B a) (wrap64 (((B a).size : Int) - 1)) == 42) = decide (a.getLast? = some 42) := by
   rw [hw, bt_B, hlast]
   generalize a.getD (a.length - 1) 0 = c
   by_cases hc : c = 42
   ·subst hc; rfl
   ·rw [decide_eq_false (by intro h; exact hc (Option.some.inj h))]
    refine beq_eq_false_iff_ne.2 (fun h => hc ?_)
    have : c.toNat = 42 := by omega
    exact UInt8.toNat_inj.1 this
  have e : ∀ k, entailref22_Match.f (k + 1) (B a) (B b) = some (if a.getLast? = some 42 then a.dropLast.isPrefixOf b else a == b) := by
   intro k
   unfold entailref22_Match.f
   rw [if_pos (by rw [B_size]; omega), hbt]
   rw [if_pos (by rw [hw]; omega), if_pos (by rw [hw, B_size]; omega)]
   unfold entailref22_Match.j0
   dsimp only
   by_cases hl : a.getLast? = some 42
   ·rw [if_pos (decide_eq_true hl), if_pos hl, hw, B_size, B_size]
    rw [prefix_iff, List.length_dropLast]
    by_cases hle : a.length - 1 ≤ b.length
    ·rw [if_pos (by omega), if_pos (by omega), if_pos (by omega), if_pos (by omega), Int.toNat_natCast, B_cut, B_cut, B_toList, B_toList, List.drop_zero, List.drop_zero, Nat.sub_zero, decide_eq_true hle, Bool.true_and, List.dropLast_eq_take]
    ·rw [if_neg (by omega), decide_eq_false hle, Bool.false_and]
   ·rw [if_neg (by simpa using hl), if_neg hl, B_toList, B_toList]
  exact Ev.step (g := fun _ => some _) e (Ev.pure _)
theorem rmatches_l0 (l : List ByteArray) (x : ByteArray) (hl : Fit l) (hx : x.size < 4611686018427387904) : ∀ (d i : Nat), l.length - i = d → i ≤ l.length → Ev (fun k => entailref22_matches.l0 k l x (i : Int)) (anyM (l.drop i) x)
 | 0, i, hd, hi => by
  rw [List.drop_eq_nil_of_le (by omega)]
  refine Ev.step (g := fun _ => some false) (fun k => ?_) (Ev.pure _)
  unfold entailref22_matches.l0
  rw [if_neg (by omega)]
 | d + 1, i, hd, hi => by
  have h : i < l.length := by omega
  have hlen := hl.1
  have e : ∀ k, entailref22_matches.l0 (k + 1) l x (i : Int) = (entailref22_Match.f k l[i] x).bind fun t => if t = true then some true else entailref22_matches.l0 k l x ((i + 1 : Nat) : Int) := by
   intro k
   conv => lhs; unfold entailref22_matches.l0
   rw [if_pos (by omega), if_pos (by omega), rd_S l i h, nat_wrap1 (by omega)]
  rw [List.drop_eq_getElem_cons h]
  unfold anyM
  rw [List.any_cons]
  refine Ev.step e (Ev.bind (rmatch_ev _ _ (hl.2 _ (List.getElem_mem h)) hx) ?_)
  cases hm : mtB l[i] x with
  | true => exact Ev.pure _
  | false => exact rmatches_l0 l x hl hx d (i + 1) (by omega) (by omega)
theorem rmatches_ev (l : List ByteArray) (x : ByteArray) (hl : Fit l) (hx : x.size < 4611686018427387904) : Ev (fun k => entailref22_matches.f k l x) (anyM l x) := rmatches_l0 l x hl hx l.length 0 (by omega) (by omega)
/-! ### Over -/
def ftm (P X : List ByteArray) : List ByteArray := X.filter fun x => anyM P x
theorem rover_l0 (P X : List ByteArray) (hP : Fit P) (hX : Fit X) (hl : X.length ≤ 20) : ∀ (d i : Nat) (out : List ByteArray), X.length - i = d → i ≤ X.length → out.length ≤ i →
  Ev (fun k => entailref22_Over.l0 k P X out (i : Int)) (onceB (out ++ ftm P (X.drop i)))
 | 0, i, out, hd, hi, ho => by
  rw [List.drop_eq_nil_of_le (by omega)]
  have t := Texts_ev (out.map (·.data.toList)).length (out.map (·.data.toList)) (Nat.le_refl _) (by rw [List.length_map]; omega)
  rw [map_B, ← onceB_B, map_B] at t
  unfold ftm
  rw [List.filter_nil, List.append_nil]
  refine Ev.step (g := fun k => (entailref1_Texts.f k out).bind fun t => some t) (fun k => ?_) (Ev.bind t (Ev.pure _))
  conv => lhs; unfold entailref22_Over.l0
  rw [if_neg (by omega)]
 | d + 1, i, out, hd, hi, ho => by
  have h : i < X.length := by omega
  have e : ∀ k, entailref22_Over.l0 (k + 1) P X out (i : Int) = (entailref22_matches.f k P X[i]).bind fun t => if t = true then entailref22_Over.l0 k P X (out ++ [X[i]]) ((i + 1 : Nat) : Int) else entailref22_Over.l0 k P X out ((i + 1 : Nat) : Int) := by
   intro k
   conv => lhs; unfold entailref22_Over.l0
   rw [if_pos (by omega), if_pos (by omega), if_pos (by omega), rd_S X i h, nat_wrap1 (by omega)]
  rw [List.drop_eq_getElem_cons h]
  refine Ev.step e (Ev.bind (rmatches_ev P _ hP (hX.2 _ (List.getElem_mem h))) ?_)
  unfold ftm
  rw [List.filter_cons]
  cases hm : anyM P X[i] with
  | true =>
   rw [if_pos rfl, show out ++ X[i] :: (X.drop (i + 1)).filter (fun x => anyM P x) = out ++ [X[i]] ++ ftm P (X.drop (i + 1)) from by simp [ftm]]
   refine Ev.congr (fun k => if_pos rfl) ?_
   exact rover_l0 P X hP hX hl d (i + 1) (out ++ [X[i]]) (by omega) (by omega) (by rw [List.length_append, List.length_singleton]; omega)
  | false =>
   rw [if_neg (by decide)]
   exact rover_l0 P X hP hX hl d (i + 1) out (by omega) (by omega) (by omega)
theorem rover_ev (P X : List ByteArray) (hP : Fit P) (hX : Fit X) (hl : X.length ≤ 20) : Ev (fun k => entailref22_Over.f k P X) (onceB (ftm P X)) := rover_l0 P X hP hX hl X.length 0 [] (by omega) (by omega) (Nat.zero_le _)
theorem over_ev (P X : List ByteArray) (hP : Fit P) (hX : Fit X) (hl : X.length ≤ 20) : Ev (fun k => glob_Over.f k P X) (onceB (ftm P X)) := by
 have := Over_ev (P.map (·.data.toList)) (X.map (·.data.toList)) (fun p hp => by obtain ⟨s, hs, rfl⟩ := List.mem_map.1 hp; have := hP.2 s hs; rw [size_data]; exact this) (fun p hp => by obtain ⟨s, hs, rfl⟩ := List.mem_map.1 hp; have := hX.2 s hs; rw [size_data]; exact this) (by rw [List.length_map]; omega)
 rw [map_B, map_B, ← onceB_B] at this
 have e : ((X.map (·.data.toList)).filter fun x => (P.map (·.data.toList)).any fun p => mt p x).map B = ftm P X := by
  unfold ftm
  rw [List.filter_map, List.map_map]
  have : (B ∘ fun x : ByteArray => x.data.toList) = id := by funext x; exact B_of x
  rw [this, List.map_id]
  congr 1
  funext x
  simp only [Function.comp, List.any_map]
  rfl
 rw [e] at this
 exact this
theorem same_ev (X : List ByteArray) (hl : X.length < 4611686018427387904) : Ev (fun k => entailref1_SameTexts.f k X X) true := by
 have := SameTexts_ev (X.map (·.data.toList)) (X.map (·.data.toList)) (by rw [List.length_map]; exact hl)
 rw [map_B, decide_eq_true rfl] at this
 exact this
/-! ### In a group -/
def inn (g : List S36) (u n : ByteArray) : Bool := g.any fun x => decide (x.f0.toList = n.toList) && has x.f1 u
theorem anyO_ev {α : Type} (F : Nat → α → Option Bool) (p : α → Bool) : ∀ (l : List α), (∀ x ∈ l, Ev (fun k => F k x) (p x)) → Ev (fun k => anyO (F k) l) (l.any p)
 | [], _ => Ev.pure _
 | x :: l, h => by
  rw [List.any_cons]
  refine Ev.congr (g := fun k => (F k x).bind fun b => if b = true then some true else anyO (F k) l) (fun k => rfl) (Ev.bind (h x List.mem_cons_self) ?_)
  cases p x with
  | true => exact Ev.pure _
  | false => exact anyO_ev F p l (fun y hy => h y (List.mem_cons_of_mem _ hy))
theorem gin_ev (l0 l1 l2 : List ByteArray) (l3 : List S36) (l4 : List S34) (l5 : List S51) (u n : ByteArray) (hg : ∀ x ∈ l3, FitG x) : Ev (fun k => glob_In.f k l0 l1 l2 l3 l4 l5 u n) (inn l3 u n) := by
 refine anyO_ev (fun k => in_one k u n) _ l3 (fun x hx => ?_)
 unfold in_one
 by_cases h : x.f0.toList = n.toList
 ·rw [decide_eq_true h, Bool.true_and]
  exact Ev.congr (fun k => if_pos (beq_iff_eq.2 h)) (contains_ev _ _ (hg x hx).1)
 ·rw [decide_eq_false h, Bool.false_and]
  exact Ev.congr (g := fun _ => some false) (fun k => if_neg (fun hh => h (beq_iff_eq.1 hh))) (Ev.pure _)
theorem rd36 (X : List S36) (i : Nat) (h : i < X.length) : rd_T36 X (i : Int) = X[i] := by
 unfold rd_T36
 rw [Int.toNat_natCast, List.getD_eq_getElem?_getD, List.getElem?_eq_getElem h]; rfl
theorem rd34 (X : List S34) (i : Nat) (h : i < X.length) : rd_T34 X (i : Int) = X[i] := by
 unfold rd_T34
 rw [Int.toNat_natCast, List.getD_eq_getElem?_getD, List.getElem?_eq_getElem h]; rfl
theorem rd51 (X : List S51) (i : Nat) (h : i < X.length) : rd_T51 X (i : Int) = X[i] := by
 unfold rd_T51
 rw [Int.toNat_natCast, List.getD_eq_getElem?_getD, List.getElem?_eq_getElem h]; rfl
theorem inside_l0 (l0 l1 l2 : List ByteArray) (l3 : List S36) (l4 : List S34) (l5 : List S51) (u n : ByteArray) (hl : l3.length < 4611686018427387904) (hg : ∀ x ∈ l3, FitG x) : ∀ (d i : Nat), l3.length - i = d → i ≤ l3.length → Ev (fun k => entailref22_Inside.l0 k u n (i : Int) l0 l1 l2 l3 l4 l5) (inn (l3.drop i) u n)
 | 0, i, hd, hi => by
  rw [List.drop_eq_nil_of_le (by omega)]
  refine Ev.step (g := fun _ => some false) (fun k => ?_) (Ev.pure _)
  unfold entailref22_Inside.l0
  rw [if_neg (by omega)]
 | d + 1, i, hd, hi => by
  have h : i < l3.length := by omega
  have ej : ∀ k b, entailref22_Inside.j1 (k + 1) u n (i : Int) b l0 l1 l2 l3 l4 l5 = if b = true then some true else entailref22_Inside.l0 k u n ((i + 1 : Nat) : Int) l0 l1 l2 l3 l4 l5 := by
   intro k b
   conv => lhs; unfold entailref22_Inside.j1
   rw [nat_wrap1 (by omega)]
  have e : ∀ k, entailref22_Inside.l0 (k + 1) u n (i : Int) l0 l1 l2 l3 l4 l5 = if l3[i].f0.toList = n.toList then (entailref22_In.f k l3[i].f1 u).bind fun t => entailref22_Inside.j1 k u n (i : Int) t l0 l1 l2 l3 l4 l5 else entailref22_Inside.j1 k u n (i : Int) false l0 l1 l2 l3 l4 l5 := by
   intro k
   conv => lhs; unfold entailref22_Inside.l0
   rw [if_pos (by omega), if_pos (by omega), rd36 l3 i h]
  rw [List.drop_eq_getElem_cons h]
  unfold inn
  rw [List.any_cons]
  have ih := inside_l0 l0 l1 l2 l3 l4 l5 u n hl hg d (i + 1) (by omega) (by omega)
  by_cases hx : l3[i].f0.toList = n.toList
  ·rw [decide_eq_true hx, Bool.true_and]
   refine Ev.step (fun k => by rw [e k, if_pos hx]) (Ev.bind (in_ev _ u (hg _ (List.getElem_mem h)).1) ?_)
   cases has l3[i].f1 u with
   | true => exact Ev.step (g := fun _ => some true) (fun k => by rw [ej k, if_pos rfl]) (Ev.pure _)
   | false => exact Ev.step (fun k => by rw [ej k, if_neg (by decide)]) ih
  ·rw [decide_eq_false hx, Bool.false_and, Bool.false_or]
   exact Ev.step (fun k => by rw [e k, if_neg hx]) (Ev.step (fun k => by rw [ej k, if_neg (by decide)]) ih)
theorem inside_ev (l0 l1 l2 : List ByteArray) (l3 : List S36) (l4 : List S34) (l5 : List S51) (u n : ByteArray) (hl : l3.length < 4611686018427387904) (hg : ∀ x ∈ l3, FitG x) : Ev (fun k => entailref22_Inside.f k l0 l1 l2 l3 l4 l5 u n) (inn l3 u n) := inside_l0 l0 l1 l2 l3 l4 l5 u n hl hg l3.length 0 (by omega) (by omega)
/-! ### May -/
def whoB (g : List S36) (s : S34) (u : ByteArray) : Bool := has s.f2 u || s.f3.any fun n => inn g u n
def bear (g : List S36) (s : S34) (u a r : ByteArray) : Bool := whoB g s u && (anyM s.f4 a && anyM s.f5 r)
theorem bears_ev (l0 l1 l2 : List ByteArray) (l3 : List S36) (l4 : List S34) (l5 : List S51) (s : S34) (u a r : ByteArray) (hs : FitS s) (hg : ∀ x ∈ l3, FitG x) (ha : a.size < 4611686018427387904) (hr : r.size < 4611686018427387904) :
  Ev (fun k => glob_bears.f k l0 l1 l2 l3 l4 l5 s.f0 s.f1 s.f2 s.f3 s.f4 s.f5 u a r) (bear l3 s u a r) := by
 have hw : Ev (fun k => bears_who k l0 l1 l2 l3 l4 l5 s.f2 s.f3 u) (whoB l3 s u) := by
  unfold bears_who whoB
  refine Ev.bind (contains_ev _ _ hs.1.1) ?_
  cases has s.f2 u with
  | true => exact Ev.pure _
  | false => exact anyO_ev (fun k g => glob_In.f k l0 l1 l2 l3 l4 l5 u g) _ s.f3 (fun x hx => gin_ev l0 l1 l2 l3 l4 l5 u x hg)
 unfold glob_bears.f bear
 refine Ev.bind hw ?_
 cases whoB l3 s u with
 | false => exact Ev.pure _
 | true =>
  rw [matches_B _ _ hs.2.2.1 ha, matches_B _ _ hs.2.2.2 hr]
  refine Ev.congr (g := fun _ => some (true && (anyM s.f4 a && anyM s.f5 r))) (fun k => ?_) (Ev.pure _)
  cases anyM s.f4 a <;> rfl
def hit (b : S51) (a r : ByteArray) : Bool := anyM b.f1 a && anyM b.f2 r
/-- The boundaries: one is the user's (some), one of those lets it through. -/
def bnd (l : List S51) (u a r : ByteArray) (sm : Bool) : Bool := l.any (fun b => decide (b.f0.toList = u.toList) && hit b a r) || !(sm || l.any fun b => decide (b.f0.toList = u.toList))
theorem bounded_l0 (l5 : List S51) (u a r : ByteArray) (hl : l5.length < 4611686018427387904) (hb : ∀ x ∈ l5, FitB x) (ha : a.size < 4611686018427387904) (hr : r.size < 4611686018427387904) : ∀ (d i : Nat) (c : Bool), l5.length - i = d → i ≤ l5.length →
  Ev (fun k => glob_bounded.l0 k u a r c l5 (l5.length : Int) (i : Int)) (bnd (l5.drop i) u a r c)
 | 0, i, c, hd, hi => by
  rw [List.drop_eq_nil_of_le (by omega)]
  refine Ev.step (g := fun _ => some (bnd [] u a r c)) (fun k => ?_) (Ev.pure _)
  unfold glob_bounded.l0
  rw [if_neg (by omega)]
  cases c <;> rfl
 | d + 1, i, c, hd, hi => by
  have h : i < l5.length := by omega
  have ej : ∀ k b, glob_bounded.j1 (k + 1) u a r l5 (l5.length : Int) (i : Int) b = if b = true then some true else glob_bounded.l0 k u a r true l5 (l5.length : Int) ((i + 1 : Nat) : Int) := by
   intro k b
   conv => lhs; unfold glob_bounded.j1
   rw [nat_wrap1 (by omega)]
  have hf := hb _ (List.getElem_mem h)
  have e : ∀ k, glob_bounded.l0 (k + 1) u a r c l5 (l5.length : Int) (i : Int) = if l5[i].f0.toList = u.toList then glob_bounded.j1 k u a r l5 (l5.length : Int) (i : Int) (hit l5[i] a r) else glob_bounded.l0 k u a r c l5 (l5.length : Int) ((i + 1 : Nat) : Int) := by
   intro k
   conv => lhs; unfold glob_bounded.l0
   rw [if_pos (by omega), if_pos (by omega), if_pos (by omega), rd51 l5 i h, nat_wrap1 (by omega), matches_B _ _ hf.1 ha, matches_B _ _ hf.2 hr]
   unfold hit
   cases anyM l5[i].f1 a <;> rfl
  rw [List.drop_eq_getElem_cons h]
  by_cases hx : l5[i].f0.toList = u.toList
  ·refine Ev.step (fun k => by rw [e k, if_pos hx]) ?_
   unfold bnd
   simp only [List.any_cons]
   rw [decide_eq_true hx, Bool.true_and, Bool.true_or, Bool.or_true]
   cases hh : hit l5[i] a r with
   | true => exact Ev.step (g := fun _ => some true) (fun k => by rw [ej k, if_pos rfl]) (Ev.pure _)
   | false =>
    refine Ev.step (fun k => by rw [ej k, if_neg (by decide)]) ?_
    have := bounded_l0 l5 u a r hl hb ha hr d (i + 1) true (by omega) (by omega)
    unfold bnd at this
    rwa [Bool.true_or] at this
  ·refine Ev.step (fun k => by rw [e k, if_neg hx]) ?_
   have := bounded_l0 l5 u a r hl hb ha hr d (i + 1) c (by omega) (by omega)
   unfold bnd at this ⊢
   simp only [List.any_cons]
   rw [decide_eq_false hx, Bool.false_and, Bool.false_or, Bool.false_or]
   exact this
/-- The statements, one by one. -/
def mayL (g : List S36) (u a r : ByteArray) (z : Bool) : Bool → List S34 → Bool
 | c, [] => c && z
 | c, s :: t => if bear g s u a r = true then (if s.f1 = true then false else mayL g u a r z true t) else mayL g u a r z c t
def may (l0 l1 l2 : List ByteArray) (l3 : List S36) (l4 : List S34) (l5 : List S51) (u a r : ByteArray) : Bool := has l0 u && (has l1 a && (has l2 r && mayL l3 u a r (bnd l5 u a r false) false l4))
theorem bounded_ev (l0 l1 l2 : List ByteArray) (l3 : List S36) (l4 : List S34) (l5 : List S51) (u a r : ByteArray) (hl : l5.length < 4611686018427387904) (hb : ∀ x ∈ l5, FitB x) (ha : a.size < 4611686018427387904) (hr : r.size < 4611686018427387904) :
  Ev (fun k => glob_bounded.f k l0 l1 l2 l3 l4 l5 u a r) (bnd l5 u a r false) := bounded_l0 l5 u a r hl hb ha hr l5.length 0 false (by omega) (by omega)
theorem may_l0 (l0 l1 l2 : List ByteArray) (l3 : List S36) (l4 : List S34) (l5 : List S51) (u a r : ByteArray) (hP : FitP l0 l1 l2 l3 l4 l5) (ha : a.size < 4611686018427387904) (hr : r.size < 4611686018427387904) : ∀ (d i : Nat) (c : Bool), l4.length - i = d → i ≤ l4.length →
  Ev (fun k => glob_May.l0 k u a r c l4 (l4.length : Int) (i : Int) l0 l1 l2 l3 l4 l5) (mayL l3 u a r (bnd l5 u a r false) c (l4.drop i))
 | 0, i, c, hd, hi => by
  rw [List.drop_eq_nil_of_le (by omega)]
  unfold mayL
  cases c with
  | false =>
   refine Ev.step (g := fun _ => some false) (fun k => ?_) (Ev.pure _)
   unfold glob_May.l0
   rw [if_neg (by omega), if_neg (by decide)]
  | true =>
   refine Ev.step (g := fun k => (glob_bounded.f k l0 l1 l2 l3 l4 l5 u a r).bind fun t => some t) (fun k => ?_) (Ev.bind (bounded_ev l0 l1 l2 l3 l4 l5 u a r hP.2.2.2.2.2.1 hP.2.2.2.2.2.2 ha hr) (Ev.pure _))
   unfold glob_May.l0
   rw [if_neg (by omega), if_pos rfl]
 | d + 1, i, c, hd, hi => by
  have h : i < l4.length := by omega
  have hl := hP.2.2.2.2.1.1
  have hs := hP.2.2.2.2.1.2 _ (List.getElem_mem h)
  have e : ∀ k, glob_May.l0 (k + 1) u a r c l4 (l4.length : Int) (i : Int) l0 l1 l2 l3 l4 l5 = (glob_bears.f k l0 l1 l2 l3 l4 l5 l4[i].f0 l4[i].f1 l4[i].f2 l4[i].f3 l4[i].f4 l4[i].f5 u a r).bind fun t => if t = true then (if l4[i].f1 = true then some false else glob_May.l0 k u a r true l4 (l4.length : Int) ((i + 1 : Nat) : Int) l0 l1 l2 l3 l4 l5) else glob_May.l0 k u a r c l4 (l4.length : Int) ((i + 1 : Nat) : Int) l0 l1 l2 l3 l4 l5 := by
   intro k
   conv => lhs; unfold glob_May.l0
   rw [if_pos (by omega), if_pos (by omega), if_pos (by omega), rd34 l4 i h, nat_wrap1 (by omega)]
  rw [List.drop_eq_getElem_cons h]
  unfold mayL
  refine Ev.step e (Ev.bind (bears_ev l0 l1 l2 l3 l4 l5 l4[i] u a r hs hP.2.2.2.1.2 ha hr) ?_)
  by_cases hb : bear l3 l4[i] u a r = true
  ·rw [hb, if_pos rfl]
   refine Ev.congr (fun k => if_pos rfl) ?_
   by_cases hd1 : l4[i].f1 = true
   ·rw [if_pos hd1]
    exact Ev.congr (fun k => if_pos hd1) (Ev.pure _)
   ·rw [if_neg hd1]
    exact Ev.congr (fun k => if_neg hd1) (may_l0 l0 l1 l2 l3 l4 l5 u a r hP ha hr d (i + 1) true (by omega) (by omega))
  ·rw [if_neg hb]
   exact Ev.congr (fun k => if_neg hb) (may_l0 l0 l1 l2 l3 l4 l5 u a r hP ha hr d (i + 1) c (by omega) (by omega))
theorem may_ev (l0 l1 l2 : List ByteArray) (l3 : List S36) (l4 : List S34) (l5 : List S51) (u a r : ByteArray) (hP : FitP l0 l1 l2 l3 l4 l5) (ha : a.size < 4611686018427387904) (hr : r.size < 4611686018427387904) :
  Ev (fun k => glob_May.f k l0 l1 l2 l3 l4 l5 u a r) (may l0 l1 l2 l3 l4 l5 u a r) := by
 unfold glob_May.f may
 have jf : Ev (fun k => glob_May.j0 k u a r true l0 l1 l2 l3 l4 l5) false := Ev.step (g := fun _ => some false) (fun k => by unfold glob_May.j0; dsimp only; rw [if_pos rfl]) (Ev.pure _)
 refine Ev.bind (contains_ev l0 u hP.1.1) ?_
 cases has l0 u with
 | false => exact jf
 | true =>
  refine Ev.congr (fun k => if_pos rfl) (Ev.bind (contains_ev l1 a hP.2.1.1) ?_)
  cases has l1 a with
  | false => exact jf
  | true =>
   refine Ev.congr (fun k => if_pos rfl) (Ev.bind (contains_ev l2 r hP.2.2.1.1) ?_)
   cases has l2 r with
   | false => exact jf
   | true => exact Ev.step (fun k => by unfold glob_May.j0; dsimp only; rw [if_neg (by decide)]; rfl) (may_l0 l0 l1 l2 l3 l4 l5 u a r hP ha hr l4.length 0 false (by omega) (by omega))
/-- The document's walk over the boundaries: is one the user's, does one let it through. -/
theorem rbnd_l2 (l0 l1 l2 : List ByteArray) (l3 : List S36) (l4 : List S34) (l5 : List S51) (u a r : ByteArray) (hP : FitP l0 l1 l2 l3 l4 l5) (ha : a.size < 4611686018427387904) (hr : r.size < 4611686018427387904) (c : Bool) : ∀ (d i : Nat) (s t : Bool), l5.length - i = d → i ≤ l5.length → (t = true → s = true) →
  Ev (fun k => entailref22_May.l2 k u a r c s t (i : Int) l0 l1 l2 l3 l4 l5) (c && (t || bnd (l5.drop i) u a r s))
 | 0, i, s, t, hd, hi, hst => by
  rw [List.drop_eq_nil_of_le (by omega)]
  refine Ev.step (g := fun _ => some (c && (t || bnd [] u a r s))) (fun k => ?_) (Ev.pure _)
  unfold entailref22_May.l2
  rw [if_neg (by omega)]
  cases c <;> cases s <;> cases t <;> first | rfl | (exact absurd (hst rfl) (by decide))
 | d + 1, i, s, t, hd, hi, hst => by
  have h : i < l5.length := by omega
  have hl := hP.2.2.2.2.2.1
  have hf := hP.2.2.2.2.2.2 _ (List.getElem_mem h)
  rw [List.drop_eq_getElem_cons h]
  have e : ∀ k, entailref22_May.l2 (k + 1) u a r c s t (i : Int) l0 l1 l2 l3 l4 l5 = if l5[i].f0.toList = u.toList then (if t = true then entailref22_May.l2 k u a r c true true ((i + 1 : Nat) : Int) l0 l1 l2 l3 l4 l5 else (entailref22_matches.f k l5[i].f1 a).bind fun m => if m = true then (entailref22_matches.f k l5[i].f2 r).bind fun m2 => entailref22_May.l2 k u a r c true m2 ((i + 1 : Nat) : Int) l0 l1 l2 l3 l4 l5 else entailref22_May.l2 k u a r c true false ((i + 1 : Nat) : Int) l0 l1 l2 l3 l4 l5) else entailref22_May.l2 k u a r c s t ((i + 1 : Nat) : Int) l0 l1 l2 l3 l4 l5 := by
   intro k
   conv => lhs; unfold entailref22_May.l2
   rw [if_pos (by omega), if_pos (by omega), rd51 l5 i h, nat_wrap1 (by omega)]
  have ih := fun s t => rbnd_l2 l0 l1 l2 l3 l4 l5 u a r hP ha hr c d (i + 1) s t (by omega) (by omega)
  unfold bnd
  simp only [List.any_cons]
  by_cases hx : l5[i].f0.toList = u.toList
  ·rw [decide_eq_true hx, Bool.true_and, Bool.true_or, Bool.or_true]
   refine Ev.step (fun k => by rw [e k, if_pos hx]) ?_
   cases t with
   | true =>
    have := ih true true (fun _ => rfl)
    rw [Bool.true_or] at this ⊢
    exact this
   | false =>
    refine Ev.congr (fun k => if_neg (by decide)) (Ev.bind (rmatches_ev _ a hf.1 ha) ?_)
    have e2 : hit l5[i] a r = (anyM l5[i].f1 a && anyM l5[i].f2 r) := rfl
    rw [e2]
    cases anyM l5[i].f1 a with
    | false =>
     have := ih true false (fun h => by cases h)
     unfold bnd at this
     rw [Bool.true_or] at this
     exact this
    | true =>
     refine Ev.congr (fun k => if_pos rfl) (Ev.bind (rmatches_ev _ r hf.2 hr) ?_)
     have := ih true (anyM l5[i].f2 r) (fun _ => rfl)
     unfold bnd at this
     rw [Bool.true_or] at this
     rw [Bool.true_and, Bool.false_or, Bool.or_assoc]
     exact this
  ·rw [decide_eq_false hx, Bool.false_and, Bool.false_or, Bool.false_or]
   refine Ev.step (fun k => by rw [e k, if_neg hx]) ?_
   have := ih s t hst
   unfold bnd at this
   exact this
theorem rmay_ev (l0 l1 l2 : List ByteArray) (l3 : List S36) (l4 : List S34) (l5 : List S51) (u a r : ByteArray) (hP : FitP l0 l1 l2 l3 l4 l5) (ha : a.size < 4611686018427387904) (hr : r.size < 4611686018427387904) :
  Ev (fun k => entailref22_May.f k l0 l1 l2 l3 l4 l5 u a r) (may l0 l1 l2 l3 l4 l5 u a r) := by
 have hl := hP.2.2.2.2.1.1
 have e3 : ∀ k c (i : Nat) v s0 s1 s2 s3 s4 s5, i < l4.length → entailref22_May.j3 (k + 1) u a r c (i : Int) v l0 l1 l2 l3 l4 l5 s0 s1 s2 s3 s4 s5 = if v = true then entailref22_May.l0 k u a r c ((i + 1 : Nat) : Int) l0 l1 l2 l3 l4 l5 else if s1 = true then some false else entailref22_May.l0 k u a r true ((i + 1 : Nat) : Int) l0 l1 l2 l3 l4 l5 := by
  intro k c i v s0 s1 s2 s3 s4 s5 h
  conv => lhs; unfold entailref22_May.j3
  rw [nat_wrap1 (by omega)]
 have loop : ∀ (d i : Nat) (c : Bool), l4.length - i = d → i ≤ l4.length → Ev (fun k => entailref22_May.l0 k u a r c (i : Int) l0 l1 l2 l3 l4 l5) (mayL l3 u a r (bnd l5 u a r false) c (l4.drop i)) := by
  intro d
  induction d with
  | zero =>
   intro i c hd hi
   rw [List.drop_eq_nil_of_le (by omega)]
   unfold mayL
   have := rbnd_l2 l0 l1 l2 l3 l4 l5 u a r hP ha hr c l5.length 0 false false (by omega) (by omega) (fun h => by cases h)
   rw [Bool.false_or] at this
   refine Ev.step (fun k => ?_) this
   conv => lhs; unfold entailref22_May.l0
   rw [if_neg (by omega)]; rfl
  | succ d ih =>
   intro i c hd hi
   have h : i < l4.length := by omega
   have hs := hP.2.2.2.2.1.2 _ (List.getElem_mem h)
   rw [List.drop_eq_getElem_cons h]
   obtain ⟨s, hsx⟩ : ∃ s, s = l4[i] := ⟨_, rfl⟩
   rw [← hsx] at hs ⊢
   have e : ∀ k, entailref22_May.l0 (k + 1) u a r c (i : Int) l0 l1 l2 l3 l4 l5 = (entailref22_In.f k s.f2 u).bind fun t => entailref22_May.l1 k u a r c (i : Int) t 0 l0 l1 l2 l3 l4 l5 s.f0 s.f1 s.f2 s.f3 s.f4 s.f5 := by
    intro k
    conv => lhs; unfold entailref22_May.l0
    rw [if_pos (by omega), if_pos (by omega), rd34 l4 i h, ← hsx]
   refine Ev.step e (Ev.bind (in_ev _ u hs.1.1) ?_)
   -- what follows, once it is known whether the statement is of the user
   have tail : ∀ v : Bool, Ev (fun k => entailref22_May.j3 k u a r c (i : Int) (!v) l0 l1 l2 l3 l4 l5 s.f0 s.f1 s.f2 s.f3 s.f4 s.f5) (if v = true then (if s.f1 = true then false else mayL l3 u a r (bnd l5 u a r false) true (l4.drop (i + 1))) else mayL l3 u a r (bnd l5 u a r false) c (l4.drop (i + 1))) := by
    intro v
    cases v with
    | false =>
     rw [if_neg (by decide)]
     exact Ev.step (fun k => by rw [e3 k c i _ _ _ _ _ _ _ h, if_pos (by decide)]) (ih (i + 1) c (by omega) (by omega))
    | true =>
     rw [if_pos rfl]
     by_cases hd1 : s.f1 = true
     ·rw [if_pos hd1]
      exact Ev.step (g := fun _ => some false) (fun k => by rw [e3 k c i _ _ _ _ _ _ _ h, if_neg (by decide), if_pos hd1]) (Ev.pure _)
     ·rw [if_neg hd1]
      exact Ev.step (fun k => by rw [e3 k c i _ _ _ _ _ _ _ h, if_neg (by decide), if_neg hd1]) (ih (i + 1) true (by omega) (by omega))
   have who : ∀ (e : Nat) (j : Nat) (v : Bool), s.f3.length - j = e → j ≤ s.f3.length → Ev (fun k => entailref22_May.l1 k u a r c (i : Int) v (j : Int) l0 l1 l2 l3 l4 l5 s.f0 s.f1 s.f2 s.f3 s.f4 s.f5) (if ((v || (s.f3.drop j).any fun n => inn l3 u n) && (anyM s.f4 a && anyM s.f5 r)) = true then (if s.f1 = true then false else mayL l3 u a r (bnd l5 u a r false) true (l4.drop (i + 1))) else mayL l3 u a r (bnd l5 u a r false) c (l4.drop (i + 1))) := by
    intro e
    induction e with
    | zero =>
     intro j v hd hj
     rw [List.drop_eq_nil_of_le (by omega), List.any_nil, Bool.or_false]
     have e1 : ∀ k, entailref22_May.l1 (k + 1) u a r c (i : Int) v (j : Int) l0 l1 l2 l3 l4 l5 s.f0 s.f1 s.f2 s.f3 s.f4 s.f5 = if v = true then (entailref22_matches.f k s.f4 a).bind fun t => if t = true then (entailref22_matches.f k s.f5 r).bind fun t2 => entailref22_May.j3 k u a r c (i : Int) (!t2) l0 l1 l2 l3 l4 l5 s.f0 s.f1 s.f2 s.f3 s.f4 s.f5 else entailref22_May.j3 k u a r c (i : Int) true l0 l1 l2 l3 l4 l5 s.f0 s.f1 s.f2 s.f3 s.f4 s.f5 else entailref22_May.j3 k u a r c (i : Int) true l0 l1 l2 l3 l4 l5 s.f0 s.f1 s.f2 s.f3 s.f4 s.f5 := by
      intro k
      conv => lhs; unfold entailref22_May.l1
      rw [if_neg (by omega)]
     refine Ev.step e1 ?_
     cases v with
     | false => exact tail false
     | true =>
      refine Ev.congr (fun k => if_pos rfl) (Ev.bind (rmatches_ev _ a hs.2.2.1 ha) ?_)
      cases anyM s.f4 a with
      | false => exact tail false
      | true =>
       refine Ev.congr (fun k => if_pos rfl) (Ev.bind (rmatches_ev _ r hs.2.2.2 hr) ?_)
       have := tail (anyM s.f5 r)
       simpa using this
    | succ e ih2 =>
     intro j v hd hj
     have hj2 : j < s.f3.length := by omega
     have hlen := hs.2.1.1
     have e1 : ∀ k, entailref22_May.l1 (k + 1) u a r c (i : Int) v (j : Int) l0 l1 l2 l3 l4 l5 s.f0 s.f1 s.f2 s.f3 s.f4 s.f5 = if v = true then entailref22_May.l1 k u a r c (i : Int) true ((j + 1 : Nat) : Int) l0 l1 l2 l3 l4 l5 s.f0 s.f1 s.f2 s.f3 s.f4 s.f5 else (entailref22_Inside.f k l0 l1 l2 l3 l4 l5 u s.f3[j]).bind fun t => entailref22_May.l1 k u a r c (i : Int) t ((j + 1 : Nat) : Int) l0 l1 l2 l3 l4 l5 s.f0 s.f1 s.f2 s.f3 s.f4 s.f5 := by
      intro k
      conv => lhs; unfold entailref22_May.l1
      rw [if_pos (by omega)]
      cases v with
      | true => rw [if_pos rfl, if_pos rfl, nat_wrap1 (by omega)]
      | false => rw [if_neg (by decide), if_pos (by omega), if_neg (by decide), rd_S s.f3 j hj2, nat_wrap1 (by omega)]
     rw [List.drop_eq_getElem_cons hj2, List.any_cons]
     refine Ev.step e1 ?_
     cases v with
     | true =>
      have := ih2 (j + 1) true (by omega) (by omega)
      rw [Bool.true_or] at this ⊢
      exact Ev.congr (fun k => if_pos rfl) this
     | false =>
      refine Ev.congr (fun k => if_neg (by decide)) (Ev.bind (inside_ev l0 l1 l2 l3 l4 l5 u _ hP.2.2.2.1.1 hP.2.2.2.1.2) ?_)
      have := ih2 (j + 1) (inn l3 u s.f3[j]) (by omega) (by omega)
      rw [Bool.false_or]
      exact this
   have := who s.f3.length 0 (has s.f2 u) (by omega) (by omega)
   unfold mayL bear whoB
   exact this
 have jf : Ev (fun k => entailref22_May.j0 k u a r true l0 l1 l2 l3 l4 l5) false := Ev.step (g := fun _ => some false) (fun k => by unfold entailref22_May.j0; dsimp only; rw [if_pos rfl]) (Ev.pure _)
 unfold entailref22_May.f may
 refine Ev.bind (in_ev l0 u hP.1.1) ?_
 cases has l0 u with
 | false => exact jf
 | true =>
  refine Ev.congr (fun k => if_pos rfl) (Ev.bind (in_ev l1 a hP.2.1.1) ?_)
  cases has l1 a with
  | false => exact jf
  | true =>
   refine Ev.congr (fun k => if_pos rfl) (Ev.bind (in_ev l2 r hP.2.2.1.1) ?_)
   cases has l2 r with
   | false => exact jf
   | true => exact Ev.step (fun k => by unfold entailref22_May.j0; dsimp only; rw [if_neg (by decide)]; rfl) (loop l4.length 0 false (by omega) (by omega))
/-! ### The policy of numbers, the question of a number -/
def fitB (l : List ByteArray) : Bool := decide (l.length ≤ 8) && l.all fun s => decide (s.size ≤ 8)
theorem fit_of {l : List ByteArray} (h : fitB l = true) : Fit l ∧ l.length ≤ 8 ∧ ∀ s ∈ l, s.size ≤ 8 := by
 unfold fitB at h
 rw [Bool.and_eq_true, List.all_eq_true] at h
 have h1 := of_decide_eq_true h.1
 have h2 : ∀ s ∈ l, s.size ≤ 8 := fun s hs => of_decide_eq_true (h.2 s hs)
 exact ⟨⟨by omega, fun s hs => by have := h2 s hs; omega⟩, h1, h2⟩
theorem rd_small {l : List ByteArray} (h : fitB l = true) (i : Int) : (rdOf ByteArray.empty l i).size ≤ 8 := by
 unfold rdOf
 rw [List.getD_eq_getElem?_getD]
 cases hh : l[i.toNat]? with
 | none => simp
 | some s => exact (fit_of h).2.2 s (List.mem_of_getElem? hh)
theorem u64_nonneg (x : Int) : 0 ≤ IntKind.u64.wrap x := by
 unfold IntKind.wrap
 simp only [IntKind.signed, IntKind.bits]
 first | omega | exact Int.emod_nonneg _ (by decide)
theorem few_l0 (n : Int) (l : List ByteArray) (hl : fitB l = true) : ∀ (d i : Nat) (out : List ByteArray), l.length - i = d → i ≤ l.length → out.length ≤ i → (∀ s ∈ out, s.size ≤ 8) → ∃ r, Ev (fun k => entaillaw23_Made_1.l0 k n l out (i : Int)) r ∧ Fit r
 | 0, i, out, hd, hi, ho, hs => by
  have := (fit_of hl).2.1
  refine ⟨out, Ev.step (g := fun _ => some out) (fun k => ?_) (Ev.pure _), by omega, fun s h => by have := hs s h; omega⟩
  unfold entaillaw23_Made_1.l0
  rw [if_neg (by omega)]
 | d + 1, i, out, hd, hi, ho, hs => by
  have h : i < l.length := by omega
  have hl8 := (fit_of hl).2
  by_cases hb : (Go.bits .and .i64 (shr .i64 n (IntKind.u64.wrap (i : Int))) 1) = 1
  ·obtain ⟨r, hr, hf⟩ := few_l0 n l hl d (i + 1) (out ++ [l[i]]) (by omega) (by omega) (by rw [List.length_append, List.length_singleton]; omega) (fun s hh => by
    rcases List.mem_append.1 hh with h1 | h1
    ·exact hs s h1
    ·rw [List.mem_singleton.1 h1]; exact hl8.2 _ (List.getElem_mem h))
   refine ⟨r, Ev.step (fun k => ?_) hr, hf⟩
   conv => lhs; unfold entaillaw23_Made_1.l0
   rw [if_pos (by omega), if_pos (u64_nonneg _), if_pos hb, if_pos (by omega), if_pos (by omega), rd_S l i h, nat_wrap1 (by omega)]
  ·obtain ⟨r, hr, hf⟩ := few_l0 n l hl d (i + 1) out (by omega) (by omega) (by omega) hs
   refine ⟨r, Ev.step (fun k => ?_) hr, hf⟩
   conv => lhs; unfold entaillaw23_Made_1.l0
   rw [if_pos (by omega), if_pos (u64_nonneg _), if_neg hb, nat_wrap1 (by omega)]
theorem few_ev (n : Int) (l : List ByteArray) (hl : fitB l = true) : ∃ r, Ev (fun k => entaillaw23_Made_1.f k n l) r ∧ Fit r := few_l0 n l hl l.length 0 [] (by omega) (by omega) (Nat.zero_le _) (fun s h => by cases h)
def okR (R : List ByteArray × List ByteArray × List ByteArray × (List S36) × (List S34) × (List S51)) : Prop := FitP R.1 R.2.1 R.2.2.1 R.2.2.2.1 R.2.2.2.2.1 R.2.2.2.2.2
theorem made_end (l : List Int) (i : Nat) (p0 p1 p2 : List ByteArray) (p3 : List S36) (st : List S34) (bo : List S51) : Ev (fun k => entaillaw23_Made.j1 k l (i : Int) false p0 p1 p2 p3 st bo) (p0, p1, p2, p3, st, bo) := by
 refine Ev.step (g := fun _ => some (p0, p1, p2, p3, st, bo)) (fun k => ?_) (Ev.pure _)
 conv => lhs; unfold entaillaw23_Made.j1
 rw [if_neg (by decide)]
theorem made_l0 (l : List Int) (p0 p1 p2 : List ByteArray) (p3 : List S36) (h0 : Fit p0) (h1 : Fit p1) (h2 : Fit p2) (h3 : p3.length < 4611686018427387904 ∧ ∀ x ∈ p3, FitG x) : ∀ (d i : Nat) (st : List S34) (bo : List S51), 8 - i = d → i ≤ 8 → i ≤ l.length → st.length ≤ i → bo.length ≤ i → (∀ x ∈ st, FitS x) → (∀ x ∈ bo, FitB x) →
  ∃ R, Ev (fun k => entaillaw23_Made.l0 k l (i : Int) p0 p1 p2 p3 st bo) R ∧ okR R := by
 intro d
 induction d with
 | zero =>
  intro i st bo hd h8 hi hs hb fs fb
  refine ⟨(p0, p1, p2, p3, st, bo), ?_, show FitP p0 p1 p2 p3 st bo from ⟨h0, h1, h2, h3, ⟨by omega, fs⟩, ⟨by omega, fb⟩⟩⟩
  refine Ev.step (fun k => ?_) (made_end l i p0 p1 p2 p3 st bo)
  conv => lhs; unfold entaillaw23_Made.l0
  by_cases hlt : (i : Int) < (l.length : Int)
  ·rw [if_pos hlt, decide_eq_false (by omega)]
  ·rw [if_neg hlt]
 | succ d ih =>
  intro i st bo hd h8 hi hs hb fs fb
  by_cases hlt : i < l.length
  ·have e : ∀ k, entaillaw23_Made.l0 (k + 1) l (i : Int) p0 p1 p2 p3 st bo = entaillaw23_Made.j1 k l (i : Int) true p0 p1 p2 p3 st bo := by
    intro k
    conv => lhs; unfold entaillaw23_Made.l0
    rw [if_pos (by omega), decide_eq_true (by omega)]
   obtain ⟨acts, ea, fa⟩ := few_ev ((rd l (i : Int)) / 65536) ([(⟨#[42]⟩ : ByteArray), (⟨#[103, 101, 116, 42]⟩ : ByteArray), (⟨#[103, 101, 116]⟩ : ByteArray), (⟨#[112, 117, 116]⟩ : ByteArray), (⟨#[108, 42]⟩ : ByteArray), (⟨#[122, 42]⟩ : ByteArray)] : List ByteArray) (by decide)
   obtain ⟨ress, er, fr⟩ := few_ev ((rd l (i : Int)) / 16777216) ([(⟨#[42]⟩ : ByteArray), (⟨#[97, 42]⟩ : ByteArray), (⟨#[98]⟩ : ByteArray), (⟨#[97, 98]⟩ : ByteArray), (⟨#[97]⟩ : ByteArray)] : List ByteArray) (by decide)
   obtain ⟨us, eu, fu⟩ := few_ev ((rd l (i : Int)) / 4294967296) ([(⟨#[117]⟩ : ByteArray), (⟨#[118]⟩ : ByteArray), (⟨#[119]⟩ : ByteArray)] : List ByteArray) (by decide)
   obtain ⟨gs, eg, fg⟩ := few_ev ((rd l (i : Int)) / 68719476736) ([(⟨#[103]⟩ : ByteArray), (⟨#[104]⟩ : ByteArray)] : List ByteArray) (by decide)
   have hm : 0 ≤ Int.tmod (Go.bits .and .i64 ((rd l (i : Int)) / 256) 255) 3 ∧ Int.tmod (Go.bits .and .i64 ((rd l (i : Int)) / 256) 255) 3 < 3 := and_mod ((rd l (i : Int)) / 256) 3 (by decide)
   have hn : 0 ≤ Go.bits .and .i64 ((rd l (i : Int)) / 1099511627776) 7 ∧ Go.bits .and .i64 ((rd l (i : Int)) / 1099511627776) 7 ≤ 7 := and_small ((rd l (i : Int)) / 1099511627776) 7 (by decide)
   by_cases hc : (Int.tmod (Go.bits .and .i64 (rd l (i : Int)) 255) 4) = 3
   ·obtain ⟨R, hR, hF⟩ := ih (i + 1) st (bo ++ [(⟨rdOf ByteArray.empty ([(⟨#[117]⟩ : ByteArray), (⟨#[118]⟩ : ByteArray), (⟨#[119]⟩ : ByteArray)] : List ByteArray) (Int.tmod (Go.bits .and .i64 ((rd l (i : Int)) / 256) 255) 3), acts, ress⟩ : S51)]) (by omega) (by omega) (by omega) (by omega) (by rw [List.length_append, List.length_singleton]; omega) fs (fun x hx => by
     rcases List.mem_append.1 hx with h | h
     ·exact fb x h
     ·rw [List.mem_singleton.1 h]; exact ⟨fa, fr⟩)
    have e1 : ∀ k, entaillaw23_Made.j1 (k + 1) l (i : Int) true p0 p1 p2 p3 st bo = (entaillaw23_Made_1.f k ((rd l (i : Int)) / 65536) ([(⟨#[42]⟩ : ByteArray), (⟨#[103, 101, 116, 42]⟩ : ByteArray), (⟨#[103, 101, 116]⟩ : ByteArray), (⟨#[112, 117, 116]⟩ : ByteArray), (⟨#[108, 42]⟩ : ByteArray), (⟨#[122, 42]⟩ : ByteArray)] : List ByteArray)).bind fun a => (entaillaw23_Made_1.f k ((rd l (i : Int)) / 16777216) ([(⟨#[42]⟩ : ByteArray), (⟨#[97, 42]⟩ : ByteArray), (⟨#[98]⟩ : ByteArray), (⟨#[97, 98]⟩ : ByteArray), (⟨#[97]⟩ : ByteArray)] : List ByteArray)).bind fun b => entaillaw23_Made.l0 k l ((i + 1 : Nat) : Int) p0 p1 p2 p3 st (bo ++ [(⟨rdOf ByteArray.empty ([(⟨#[117]⟩ : ByteArray), (⟨#[118]⟩ : ByteArray), (⟨#[119]⟩ : ByteArray)] : List ByteArray) (Int.tmod (Go.bits .and .i64 ((rd l (i : Int)) / 256) 255) 3), a, b⟩ : S51)]) := by
     intro k
     conv => lhs; unfold entaillaw23_Made.j1
     rw [if_pos rfl, if_pos (by omega), if_pos (by omega)]
     refine congrArg _ (funext fun a => congrArg _ (funext fun b => ?_))
     rw [if_pos hc, Option.bind_some, if_pos hm.1, if_pos (by have := hm.2; simp only [List.length_cons, List.length_nil]; omega), if_pos (by omega), nat_wrap1 (by omega)]
    exact ⟨R, Ev.step e (Ev.step e1 (Ev.bind ea (Ev.bind er hR))), hF⟩
   ·obtain ⟨R, hR, hF⟩ := ih (i + 1) (st ++ [(⟨rdOf ByteArray.empty ([(⟨#[115, 48]⟩ : ByteArray), (⟨#[115, 49]⟩ : ByteArray), (⟨#[115, 50]⟩ : ByteArray), (⟨#[115, 51]⟩ : ByteArray), (⟨#[115, 52]⟩ : ByteArray), (⟨#[115, 53]⟩ : ByteArray), (⟨#[115, 54]⟩ : ByteArray), (⟨#[115, 55]⟩ : ByteArray)] : List ByteArray) (Go.bits .and .i64 ((rd l (i : Int)) / 1099511627776) 7), ((Int.tmod (Go.bits .and .i64 (rd l (i : Int)) 255) 4) == 2), us, gs, acts, ress⟩ : S34)]) bo (by omega) (by omega) (by omega) (by rw [List.length_append, List.length_singleton]; omega) (by omega) (fun x hx => by
     rcases List.mem_append.1 hx with h | h
     ·exact fs x h
     ·rw [List.mem_singleton.1 h]; exact ⟨fu, fg, fa, fr⟩) fb
    have e1 : ∀ k, entaillaw23_Made.j1 (k + 1) l (i : Int) true p0 p1 p2 p3 st bo = (entaillaw23_Made_1.f k ((rd l (i : Int)) / 65536) ([(⟨#[42]⟩ : ByteArray), (⟨#[103, 101, 116, 42]⟩ : ByteArray), (⟨#[103, 101, 116]⟩ : ByteArray), (⟨#[112, 117, 116]⟩ : ByteArray), (⟨#[108, 42]⟩ : ByteArray), (⟨#[122, 42]⟩ : ByteArray)] : List ByteArray)).bind fun a => (entaillaw23_Made_1.f k ((rd l (i : Int)) / 16777216) ([(⟨#[42]⟩ : ByteArray), (⟨#[97, 42]⟩ : ByteArray), (⟨#[98]⟩ : ByteArray), (⟨#[97, 98]⟩ : ByteArray), (⟨#[97]⟩ : ByteArray)] : List ByteArray)).bind fun b => (entaillaw23_Made_1.f k ((rd l (i : Int)) / 4294967296) ([(⟨#[117]⟩ : ByteArray), (⟨#[118]⟩ : ByteArray), (⟨#[119]⟩ : ByteArray)] : List ByteArray)).bind fun u => (entaillaw23_Made_1.f k ((rd l (i : Int)) / 68719476736) ([(⟨#[103]⟩ : ByteArray), (⟨#[104]⟩ : ByteArray)] : List ByteArray)).bind fun g => entaillaw23_Made.l0 k l ((i + 1 : Nat) : Int) p0 p1 p2 p3 (st ++ [(⟨rdOf ByteArray.empty ([(⟨#[115, 48]⟩ : ByteArray), (⟨#[115, 49]⟩ : ByteArray), (⟨#[115, 50]⟩ : ByteArray), (⟨#[115, 51]⟩ : ByteArray), (⟨#[115, 52]⟩ : ByteArray), (⟨#[115, 53]⟩ : ByteArray), (⟨#[115, 54]⟩ : ByteArray), (⟨#[115, 55]⟩ : ByteArray)] : List ByteArray) (Go.bits .and .i64 ((rd l (i : Int)) / 1099511627776) 7), ((Int.tmod (Go.bits .and .i64 (rd l (i : Int)) 255) 4) == 2), u, g, a, b⟩ : S34)]) bo := by
     intro k
     conv => lhs; unfold entaillaw23_Made.j1
     rw [if_pos rfl, if_pos (by omega), if_pos (by omega)]
     refine congrArg _ (funext fun a => congrArg _ (funext fun b => ?_))
     rw [if_neg hc, Option.bind_some, if_pos hn.1, if_pos (by have := hn.2; simp only [List.length_cons, List.length_nil]; omega)]
     refine congrArg _ (funext fun u => congrArg _ (funext fun g => ?_))
     rw [if_pos (by omega), nat_wrap1 (by omega)]
    exact ⟨R, Ev.step e (Ev.step e1 (Ev.bind ea (Ev.bind er (Ev.bind eu (Ev.bind eg hR))))), hF⟩
  ·refine ⟨(p0, p1, p2, p3, st, bo), ?_, show FitP p0 p1 p2 p3 st bo from ⟨h0, h1, h2, h3, ⟨by omega, fs⟩, ⟨by omega, fb⟩⟩⟩
   refine Ev.step (fun k => ?_) (made_end l i p0 p1 p2 p3 st bo)
   conv => lhs; unfold entaillaw23_Made.l0
   rw [if_neg (by omega)]
theorem made_ev (l : List Int) : ∃ R, Ev (fun k => entaillaw23_Made.f k l) R ∧ okR R :=
 made_l0 l _ _ _ _ (fit_of (by decide)).1 (fit_of (by decide)).1 (fit_of (by decide)).1 ⟨by decide, fun x hx => by
  simp only [List.mem_cons, List.not_mem_nil, or_false] at hx
  rcases hx with rfl | rfl <;> exact (fit_of (by decide)).1⟩ 8 0 [] [] rfl (by omega) (Nat.zero_le _) (Nat.zero_le _) (Nat.zero_le _) (fun x h => by cases h) (fun x h => by cases h)
theorem ask_f (n : Int) : ∃ a b c : ByteArray, entaillaw24_Ask.f n = some (false, a, b, c) ∧ a.size ≤ 8 ∧ b.size ≤ 8 ∧ c.size ≤ 8 := by
 have h1 : 0 ≤ Go.bits .and .i64 (n) 3 ∧ Go.bits .and .i64 (n) 3 ≤ 3 := and_small (n) 3 (by decide)
 have h2 : 0 ≤ Int.tmod (Go.bits .and .i64 (n / 4) 255) 5 ∧ Int.tmod (Go.bits .and .i64 (n / 4) 255) 5 < 5 := and_mod (n / 4) 5 (by decide)
 have h3 : 0 ≤ Go.bits .and .i64 (n / 1024) 3 ∧ Go.bits .and .i64 (n / 1024) 3 ≤ 3 := and_small (n / 1024) 3 (by decide)
 refine ⟨_, _, _, ?_, rd_small (l := ([(⟨#[117]⟩ : ByteArray), (⟨#[118]⟩ : ByteArray), (⟨#[119]⟩ : ByteArray), (⟨#[120]⟩ : ByteArray)] : List ByteArray)) (by decide) (Go.bits .and .i64 n 3), rd_small (l := ([(⟨#[103, 101, 116]⟩ : ByteArray), (⟨#[103, 101, 116, 97, 108, 108]⟩ : ByteArray), (⟨#[112, 117, 116]⟩ : ByteArray), (⟨#[108, 105, 115, 116]⟩ : ByteArray), (⟨#[122]⟩ : ByteArray)] : List ByteArray)) (by decide) (Int.tmod (Go.bits .and .i64 (n / 4) 255) 5), rd_small (l := ([(⟨#[97]⟩ : ByteArray), (⟨#[97, 98]⟩ : ByteArray), (⟨#[98]⟩ : ByteArray), (⟨#[99]⟩ : ByteArray)] : List ByteArray)) (by decide) (Go.bits .and .i64 (n / 1024) 3)⟩
 unfold entaillaw24_Ask.f
 rw [Option.bind_some, if_pos h1.1, if_pos (by have := h1.2; simp only [List.length_cons, List.length_nil]; omega), Option.bind_some, if_pos h2.1, if_pos (by have := h2.2; simp only [List.length_cons, List.length_nil]; omega), Option.bind_some, if_pos h3.1, if_pos (by have := h3.2; simp only [List.length_cons, List.length_nil]; omega)]
/-! ### GlobTells -/
theorem awake_ev : Ev (fun k => entaillaw24_awake.f k) true := Ev.mono (fun k => entaillaw24_awake.mono k) (K := 60) (by decide +kernel)
theorem awake2_ev : Ev (fun k => (entaillaw24_awake.f k).bind fun t => some t) true := Ev.bind awake_ev (Ev.pure _)
theorem once_len (l : List ByteArray) : (onceB l).length ≤ l.length := by
 unfold onceB
 have := uniq_len (l.map (·.data.toList))
 rw [List.length_map] at this ⊢
 exact this
theorem tells_l2 (l : List Int) (n : Int) : ∀ (d i : Nat) (p0 p1 p2 : List ByteArray) (p3 : List S36) (p4 : List S34) (p5 : List S51) (s : Bool) (u a r : ByteArray), 2 - i = d → i ≤ 2 → FitP p0 p1 p2 p3 p4 p5 → a.size < 4611686018427387904 → r.size < 4611686018427387904 →
  Ev (fun k => entaillaw24_GlobTells.l2 k l n (i : Int) p0 p1 p2 p3 p4 p5 s u a r) true := by
 intro d
 induction d with
 | zero =>
  intro i p0 p1 p2 p3 p4 p5 s u a r hd hi hP ha hr
  have e : ∀ k, entaillaw24_GlobTells.l2 (k + 1) l n (i : Int) p0 p1 p2 p3 p4 p5 s u a r = (glob_In.f k p0 p1 p2 p3 p4 p5 u (⟨#[103]⟩ : ByteArray)).bind fun t => (entailref22_Inside.f k p0 p1 p2 p3 p4 p5 u (⟨#[103]⟩ : ByteArray)).bind fun v => if (t == v) = true then ((entaillaw24_awake.f k).bind fun t => some t) else some false := by
   intro k
   conv => lhs; unfold entaillaw24_GlobTells.l2
   rw [if_neg (by omega)]
  refine Ev.step e (Ev.bind (gin_ev p0 p1 p2 p3 p4 p5 u _ hP.2.2.2.1.2) (Ev.bind (inside_ev p0 p1 p2 p3 p4 p5 u _ hP.2.2.2.1.1 hP.2.2.2.1.2) ?_))
  exact Ev.congr (fun k => if_pos (beq_self_eq_true _)) awake2_ev
 | succ d ih =>
  intro i p0 p1 p2 p3 p4 p5 s u a r hd hi hP ha hr
  obtain ⟨R, hR, hF⟩ := made_ev l
  obtain ⟨u', a', r', hA, hu, ha', hr'⟩ := ask_f n
  have e : ∀ k, entaillaw24_GlobTells.l2 (k + 1) l n (i : Int) p0 p1 p2 p3 p4 p5 s u a r = (glob_May.f k p0 p1 p2 p3 p4 p5 u a r).bind fun t => (entailref22_May.f k p0 p1 p2 p3 p4 p5 u a r).bind fun v => if (t != v) = true then entaillaw24_GlobTells.j5 k l n (i : Int) true else (glob_In.f k p0 p1 p2 p3 p4 p5 u a).bind fun t => (entailref22_Inside.f k p0 p1 p2 p3 p4 p5 u a).bind fun v => entaillaw24_GlobTells.j5 k l n (i : Int) (t != v) := by
   intro k
   conv => lhs; unfold entaillaw24_GlobTells.l2
   rw [if_pos (by omega)]
  have ej : ∀ k, entaillaw24_GlobTells.j5 (k + 1) l n (i : Int) false = (entaillaw23_Made.f k l).bind fun b => entaillaw24_GlobTells.l2 k l n ((i + 1 : Nat) : Int) b.1 b.2.1 b.2.2.1 b.2.2.2.1 b.2.2.2.2.1 b.2.2.2.2.2 false u' a' r' := by
   intro k
   conv => lhs; unfold entaillaw24_GlobTells.j5
   rw [if_neg (by decide), hA, nat_wrap1 (by omega)]
   rfl
  refine Ev.step e (Ev.bind (may_ev p0 p1 p2 p3 p4 p5 u a r hP ha hr) (Ev.bind (rmay_ev p0 p1 p2 p3 p4 p5 u a r hP ha hr) ?_))
  refine Ev.congr (fun k => if_neg (by simp)) (Ev.bind (gin_ev p0 p1 p2 p3 p4 p5 u a hP.2.2.2.1.2) (Ev.bind (inside_ev p0 p1 p2 p3 p4 p5 u a hP.2.2.2.1.1 hP.2.2.2.1.2) ?_))
  rw [bne_self_eq_false]
  exact Ev.step ej (Ev.bind hR (ih (i + 1) _ _ _ _ _ _ false u' a' r' (by omega) (by omega) hF (by omega) (by omega)))
theorem GlobTells_ev (pt nm : ByteArray) (l m : List ByteArray) (p0 p1 p2 : List ByteArray) (p3 : List S36) (p4 : List S34) (p5 : List S51) (num : List Int) (s : Bool) (u a r : ByteArray) (n : Int)
  (hpt : pt.size < 4611686018427387904) (hnm : nm.size < 4611686018427387904) (hl : Fit l) (hm : Fit m) (hP : FitP p0 p1 p2 p3 p4 p5) (hg : ∀ x ∈ p3, (1 + x.f1.length) * 16 ≤ 140737488355328) (ha : a.size < 4611686018427387904) (hr : r.size < 4611686018427387904) :
  Ev (fun k => entaillaw24_GlobTells.f k pt nm l m p0 p1 p2 p3 p4 p5 num s u a r n) true := by
 have jt : Ev (fun k => entaillaw24_GlobTells.j0 k pt nm l m num n true p0 p1 p2 p3 p4 p5 s u a r) true := by
  refine Ev.step (fun k => ?_) awake2_ev
  unfold entaillaw24_GlobTells.j0
  dsimp only
  rw [if_pos rfl]
 by_cases c1 : (wrap64 ((pt.size : Int) + (nm.size : Int))) > 200
 ·exact Ev.congr (fun k => by unfold entaillaw24_GlobTells.f; rw [if_pos c1]) jt
 by_cases c2 : (l.length : Int) > 20
 ·exact Ev.congr (fun k => by unfold entaillaw24_GlobTells.f; rw [if_neg c1, if_pos c2]) jt
 by_cases c3 : (m.length : Int) > 20
 ·exact Ev.congr (fun k => by unfold entaillaw24_GlobTells.f; rw [if_neg c1, if_neg c2, if_pos c3]) jt
 obtain ⟨q, hq⟩ : ∃ q, entaillaw23_Small.f p0 p1 p2 p3 p4 p5 = some q := by
  unfold entaillaw23_Small.f
  split
  ·exact ⟨_, rfl⟩
  ·split
   ·exact ⟨_, rfl⟩
   ·split
    ·exact ⟨_, rfl⟩
    ·exact ⟨_, if_pos (List.all_eq_true.2 fun x hx => decide_eq_true (hg x hx))⟩
 have e : ∀ k, entaillaw24_GlobTells.f k pt nm l m p0 p1 p2 p3 p4 p5 num s u a r n = if q = true then entaillaw24_GlobTells.j0 k pt nm l m num n (decide ((wrap64 ((wrap64 ((u.size : Int) + (a.size : Int))) + (r.size : Int))) > 300)) p0 p1 p2 p3 p4 p5 s u a r else entaillaw24_GlobTells.j0 k pt nm l m num n true p0 p1 p2 p3 p4 p5 s u a r := by
  intro k
  unfold entaillaw24_GlobTells.f
  rw [if_neg c1, if_neg c2, if_neg c3, hq]
  rfl
 by_cases c4 : q = true
 rotate_left
 ·exact Ev.congr (fun k => by rw [e k, if_neg c4]) jt
 by_cases c5 : (wrap64 ((wrap64 ((u.size : Int) + (a.size : Int))) + (r.size : Int))) > 300
 ·refine Ev.congr (fun k => by rw [e k, if_pos c4, decide_eq_true c5]) jt
 refine Ev.congr (g := fun k => entaillaw24_GlobTells.j0 k pt nm l m num n false p0 p1 p2 p3 p4 p5 s u a r) (fun k => by rw [e k, if_pos c4, decide_eq_false c5]) ?_
 -- the bodies of the two loops over texts
 have ll : l.length ≤ 20 := by omega
 have lm : m.length ≤ 20 := by omega
 have tail : Ev (fun k => (glob_Match.f pt nm).bind fun t463 => (entailref22_Match.f k pt nm).bind fun t464 => if (t463 != t464) = true then entaillaw24_GlobTells.j3 k num n true p0 p1 p2 p3 p4 p5 s u a r else (glob_Over.f k l m).bind fun t465 => (entailref22_Over.f k l m).bind fun t468 => (entailref1_SameTexts.f k t465 t468).bind fun t471 => entaillaw24_GlobTells.j3 k num n (!t471) p0 p1 p2 p3 p4 p5 s u a r) true := by
  rw [Match_B pt nm hpt hnm]
  refine Ev.bind (f := fun _ => some (mtB pt nm)) (Ev.pure _) (Ev.bind (rmatch_ev pt nm hpt hnm) ?_)
  refine Ev.congr (fun k => if_neg (by simp)) ?_
  refine Ev.bind (over_ev l m hl hm lm) (Ev.bind (rover_ev l m hl hm lm) (Ev.bind (same_ev (onceB (ftm l m)) ?_) ?_))
  ·have h1 : (ftm l m).length ≤ 20 := Nat.le_trans (List.length_filter_le _ _) lm
   have h2 := once_len (ftm l m)
   omega
  ·refine Ev.step (fun k => ?_) (tells_l2 num n 2 0 p0 p1 p2 p3 p4 p5 s u a r (by omega) (by omega) hP ha hr)
   unfold entaillaw24_GlobTells.j3
   dsimp only
   rw [if_neg (by decide)]; rfl
 have loop1 : ∀ (d i : Nat), m.length - i = d → i ≤ m.length → Ev (fun k => entaillaw24_GlobTells.l1 k pt nm l m num n (i : Int) p0 p1 p2 p3 p4 p5 s u a r) true := by
  intro d
  induction d with
  | zero =>
   intro i hd hi
   refine Ev.step (fun k => ?_) tail
   conv => lhs; unfold entaillaw24_GlobTells.l1
   rw [if_neg (by omega)]
  | succ d ih =>
   intro i hd hi
   have h : i < m.length := by omega
   have e1 : ∀ k, entaillaw24_GlobTells.l1 (k + 1) pt nm l m num n (i : Int) p0 p1 p2 p3 p4 p5 s u a r = if (m[i].size : Int) > 60 then ((entaillaw24_awake.f k).bind fun t => some t) else entaillaw24_GlobTells.l1 k pt nm l m num n ((i + 1 : Nat) : Int) p0 p1 p2 p3 p4 p5 s u a r := by
    intro k
    conv => lhs; unfold entaillaw24_GlobTells.l1
    rw [if_pos (by omega), if_pos (by omega), rd_S m i h, nat_wrap1 (by omega)]
   by_cases hc : (m[i].size : Int) > 60
   ·exact Ev.step (fun k => by rw [e1 k, if_pos hc]) awake2_ev
   ·exact Ev.step (fun k => by rw [e1 k, if_neg hc]) (ih (i + 1) (by omega) (by omega))
 have loop0 : ∀ (d i : Nat), l.length - i = d → i ≤ l.length → Ev (fun k => entaillaw24_GlobTells.l0 k pt nm l m num n (i : Int) p0 p1 p2 p3 p4 p5 s u a r) true := by
  intro d
  induction d with
  | zero =>
   intro i hd hi
   refine Ev.step (fun k => ?_) (loop1 m.length 0 (by omega) (by omega))
   conv => lhs; unfold entaillaw24_GlobTells.l0
   rw [if_neg (by omega)]; rfl
  | succ d ih =>
   intro i hd hi
   have h : i < l.length := by omega
   have e1 : ∀ k, entaillaw24_GlobTells.l0 (k + 1) pt nm l m num n (i : Int) p0 p1 p2 p3 p4 p5 s u a r = if (l[i].size : Int) > 60 then ((entaillaw24_awake.f k).bind fun t => some t) else entaillaw24_GlobTells.l0 k pt nm l m num n ((i + 1 : Nat) : Int) p0 p1 p2 p3 p4 p5 s u a r := by
    intro k
    conv => lhs; unfold entaillaw24_GlobTells.l0
    rw [if_pos (by omega), if_pos (by omega), rd_S l i h, nat_wrap1 (by omega)]
   by_cases hc : (l[i].size : Int) > 60
   ·exact Ev.step (fun k => by rw [e1 k, if_pos hc]) awake2_ev
   ·exact Ev.step (fun k => by rw [e1 k, if_neg hc]) (ih (i + 1) (by omega) (by omega))
 refine Ev.step (fun k => ?_) (loop0 l.length 0 (by omega) (by omega))
 unfold entaillaw24_GlobTells.j0
 dsimp only
 rw [if_neg (by decide)]; rfl
end Go.Proofs.Ytppndhbeglcioaa.Pl
