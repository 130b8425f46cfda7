/- The plain laws of patterns and of rows of texts: Match, matches, Over, Texts, SameTexts; no program in sight. -/
import Derived.Test.YtppndhbeglcioaaCutB
import Derived.Test.YtppndhbeglcioaaGAx8
import Derived.Test.YtppndhbeglcioaaGAx14
import Derived.Test.YtppndhbeglcioaaGAx16
import Derived.Test.YtppndhbeglcioaaGAx21
namespace Go.Proofs.Ytppndhbeglcioaa.Pl
open Go.RowKit Go.Proofs.YtppndhbeglcioaaUniq Go.Proofs.Ytppndhbeglcioaa.GA Go.Proofs.YtppndhbeglcioaaW.PrintWords Go.Proofs.YtppndhbeglcioaaW.PrintLast Go.Proofs.YtppndhbeglcioaaW.PrintMore
set_option linter.unusedVariables false
set_option linter.unusedSimpArgs false
/-! ### A pattern -/
def mt (p x : List UInt8) : Bool := if p.getLast? = some 42 then p.dropLast.isPrefixOf x else p == x
theorem prefix_iff : ∀ (a x : List UInt8), a.isPrefixOf x = (decide (a.length ≤ x.length) && (x.take a.length == a))
 | [], x => by simp
 | c :: a, [] => by simp
 | c :: a, d :: x => by
  have ih := prefix_iff a x
  rw [List.isPrefixOf_cons_cons, ih]
  simp only [List.length_cons, List.take_succ_cons, Nat.add_le_add_iff_right]
  by_cases h : c = d
  ·subst h; simp
  ·have h2 : ¬ d = c := fun e => h e.symm
   have e1 : (c == d) = false := by simpa using h
   have e2 : (d == c) = false := by simpa using h2
   rw [List.cons_beq_cons, e1, e2]; simp
theorem getLast_drop (l : List UInt8) (h : l ≠ []) : (l.drop (l.length - 1)) = [l.getLast h] := by
 have hp := List.length_pos_iff.2 h
 rw [List.drop_eq_getElem_cons (by omega), List.drop_eq_nil_of_le (by omega), List.getLast_eq_getElem]
theorem suffix_f (l : List UInt8) (hl : l.length < 4611686018427387904) : stringslite_HasSuffix.f (B l) (⟨#[42]⟩ : ByteArray) = some (decide (l.getLast? = some 42)) := by
 unfold stringslite_HasSuffix.f
 rw [B_size]
 have e1 : ((⟨#[42]⟩ : ByteArray).size : Int) = 1 := rfl
 rw [e1]
 cases l with
 | nil => simp
 | cons c r =>
  have hn : (((c :: r).length : Nat) : Int) ≥ 1 := by simp; omega
  rw [if_pos hn, wrap_small (by omega) (by omega), if_pos (by omega), if_pos (by omega)]
  congr 1
  have e2 : ((((c :: r).length : Nat) : Int) - 1).toNat = (c :: r).length - 1 := by omega
  rw [e2, B_cut]
  have e3 : (c :: r).drop ((c :: r).length - 1) = [(c :: r).getLast (by simp)] := getLast_drop _ (by simp)
  rw [e3, List.take_of_length_le (by simp), List.getLast?_eq_some_getLast (by simp), B_toList, show ({ data := #[42] } : ByteArray).toList = [42] from Lib.toList_data _]
  by_cases hx : (c :: r).getLast (by simp) = 42 <;> simp [hx]
theorem Match_f (p x : List UInt8) (hp : p.length < 4611686018427387904) (hx : x.length < 4611686018427387904) : glob_Match.f (B p) (B x) = some (mt p x) := by
 unfold glob_Match.f strings_CutSuffix.f stringslite_CutSuffix.f
 rw [suffix_f p hp]
 simp only [Option.bind_some, B_size]
 have e1 : ((⟨#[42]⟩ : ByteArray).size : Int) = 1 := rfl
 rw [e1]
 unfold mt
 by_cases h : p.getLast? = some 42
 ·have hne : p ≠ [] := by rintro rfl; simp at h
  have hpos : 0 < p.length := List.length_pos_iff.2 hne
  simp only [h, decide_true, if_true]
  rw [wrap_small (by omega) (by omega), if_pos (by omega), if_pos (by omega)]
  simp only [Option.bind_some, if_true]
  have e2 : (((p.length : Nat) : Int) - 1).toNat = p.length - 1 := by omega
  rw [e2, B_cut, List.drop_zero, Nat.sub_zero, ← List.dropLast_eq_take]
  unfold strings_HasPrefix.f stringslite_HasPrefix.f
  rw [B_size, B_size, prefix_iff]
  by_cases hle : p.dropLast.length ≤ x.length
  ·rw [if_pos (by omega), if_pos (by omega), if_pos (by omega)]
   simp only [Option.bind_some, Int.toNat_natCast]
   rw [B_cut, B_toList, B_toList, List.drop_zero, Nat.sub_zero, decide_eq_true hle, Bool.true_and]
  ·rw [if_neg (by omega), decide_eq_false hle]; rfl
 ·rw [if_neg h, decide_eq_false h]
  simp only [Option.bind_some, Bool.false_eq_true, if_false]
  rw [B_toList, B_toList]
theorem matches_f (P : List (List UInt8)) (x : List UInt8) (hP : ∀ p ∈ P, p.length < 4611686018427387904) (hx : x.length < 4611686018427387904) : glob_matches.f (P.map B) (B x) = some (P.any fun p => mt p x) := by
 unfold glob_matches.f
 induction P with
 | nil => rfl
 | cons p P ih =>
  rw [List.map_cons]
  unfold anyO
  rw [Match_f p x (hP p List.mem_cons_self) hx, Option.bind_some, ih (fun q hq => hP q (List.mem_cons_of_mem _ hq)), List.any_cons]
  cases mt p x <;> simp
theorem over_l0 (P X : List (List UInt8)) (hP : ∀ p ∈ P, p.length < 4611686018427387904) (hX : ∀ x ∈ X, x.length < 4611686018427387904) (hl : X.length < 4000000000000) :
  ∀ (d i : Nat) (out : List (List UInt8)), X.length - i = d → i ≤ X.length → out.length ≤ i →
  Ev (fun k => glob_Over.l0 k (P.map B) (out.map B) (X.map B) (X.length : Int) (i : Int)) ((uniq (out ++ (X.drop i).filter fun x => P.any fun p => mt p x)).map B)
 | 0, i, out, hd, hi, ho => by
  rw [List.drop_eq_nil_of_le (by omega), List.filter_nil, List.append_nil]
  refine Ev.step (g := fun _ => some ((uniq out).map B)) (fun k => ?_) (Ev.pure _)
  unfold glob_Over.l0 norm_Once.f
  rw [if_neg (by omega), if_pos (by rw [List.length_map]; omega), onceB_B]; rfl
 | d + 1, i, out, hd, hi, ho => by
  have h : i < X.length := by omega
  have hx := hX _ (List.getElem_mem h)
  have e : ∀ k, glob_Over.l0 (k + 1) (P.map B) (out.map B) (X.map B) (X.length : Int) (i : Int) = if (P.any fun p => mt p X[i]) = true then glob_Over.l0 k (P.map B) ((out ++ [X[i]]).map B) (X.map B) (X.length : Int) ((i + 1 : Nat) : Int) else glob_Over.l0 k (P.map B) (out.map B) (X.map B) (X.length : Int) ((i + 1 : Nat) : Int) := by
   intro k
   conv => lhs; unfold glob_Over.l0
   rw [if_pos (by omega), if_pos (by omega), if_pos (by rw [List.length_map]; omega), rd_B X i h, matches_f P _ hP hx, Option.bind_some, nat_wrap1 (by omega)]
   by_cases hb : (P.any fun p => mt p X[i]) = true
   ·rw [if_pos hb, if_pos hb, if_pos (by rw [List.length_map]; omega), List.map_append]; rfl
   ·rw [if_neg hb, if_neg hb]
  rw [List.drop_eq_getElem_cons h, List.filter_cons]
  by_cases hb : (P.any fun p => mt p X[i]) = true
  ·rw [if_pos hb, List.append_cons]
   refine Ev.step (fun k => ?_) (over_l0 P X hP hX hl d (i + 1) (out ++ [X[i]]) (by omega) (by omega) (by rw [List.length_append, List.length_singleton]; omega))
   rw [e k, if_pos hb]
  ·rw [if_neg hb]
   refine Ev.step (fun k => ?_) (over_l0 P X hP hX hl d (i + 1) out (by omega) (by omega) (by omega))
   rw [e k, if_neg hb]
theorem Over_ev (P X : List (List UInt8)) (hP : ∀ p ∈ P, p.length < 4611686018427387904) (hX : ∀ x ∈ X, x.length < 4611686018427387904) (hl : X.length < 4000000000000) :
  Ev (fun k => glob_Over.f k (P.map B) (X.map B)) ((uniq (X.filter fun x => P.any fun p => mt p x)).map B) := by
 have := over_l0 P X hP hX hl X.length 0 [] (by omega) (by omega) (Nat.zero_le _)
 refine Ev.congr (fun k => ?_) this
 unfold glob_Over.f
 rw [List.length_map]; rfl
/-! ### Two rows of texts -/
theorem same_l0 (X Y : List (List UInt8)) (he : X.length = Y.length) (hl : X.length < 4611686018427387904) : ∀ (d i : Nat), X.length - i = d → i ≤ X.length → Ev (fun k => entailref1_SameTexts.l0 k (X.map B) (Y.map B) (i : Int)) (decide (X.drop i = Y.drop i))
 | 0, i, hd, hi => by
  rw [List.drop_eq_nil_of_le (by omega), List.drop_eq_nil_of_le (by omega)]
  refine Ev.step (g := fun _ => some (decide (([] : List (List UInt8)) = []))) (fun k => ?_) (Ev.pure _)
  unfold entailref1_SameTexts.l0
  rw [if_neg (by rw [List.length_map]; omega)]; rfl
 | d + 1, i, hd, hi => by
  have h : i < X.length := by omega
  have h' : i < Y.length := by omega
  have e : ∀ k, entailref1_SameTexts.l0 (k + 1) (X.map B) (Y.map B) (i : Int) = if X[i] = Y[i] then entailref1_SameTexts.l0 k (X.map B) (Y.map B) ((i + 1 : Nat) : Int) else some false := by
   intro k
   conv => lhs; unfold entailref1_SameTexts.l0
   rw [if_pos (by rw [List.length_map]; omega), if_pos (by omega), if_pos (by rw [List.length_map]; omega), rd_B X i h, rd_B Y i h', B_toList, B_toList, nat_wrap1 (by omega)]
  rw [List.drop_eq_getElem_cons h, List.drop_eq_getElem_cons h']
  by_cases hx : X[i] = Y[i]
  ·have ih := same_l0 X Y he hl d (i + 1) (by omega) (by omega)
   have : (X[i] :: X.drop (i + 1) = Y[i] :: Y.drop (i + 1)) ↔ (X.drop (i + 1) = Y.drop (i + 1)) := ⟨fun hh => (List.cons.inj hh).2, fun hh => by rw [hh, hx]⟩
   rw [decide_eq_decide.2 this]
   exact Ev.step (fun k => by rw [e k, if_pos hx]) ih
  ·rw [decide_eq_false (by intro hh; injection hh with a b; exact hx a)]
   exact Ev.step (g := fun _ => some false) (fun k => by rw [e k, if_neg hx]) (Ev.pure _)
theorem SameTexts_ev (X Y : List (List UInt8)) (hl : X.length < 4611686018427387904) : Ev (fun k => entailref1_SameTexts.f k (X.map B) (Y.map B)) (decide (X = Y)) := by
 by_cases h : X.length = Y.length
 ·have := same_l0 X Y h hl X.length 0 (by omega) (by omega)
  rw [List.drop_zero, List.drop_zero] at this
  refine Ev.congr (fun k => ?_) this
  unfold entailref1_SameTexts.f
  rw [if_pos (by rw [List.length_map, List.length_map, h])]; rfl
 ·rw [decide_eq_false (by rintro rfl; exact h rfl)]
  refine Ev.of fun k => ?_
  unfold entailref1_SameTexts.f
  rw [if_neg (by rw [List.length_map, List.length_map]; omega)]
/-! ### The document's own row of texts, rising, each once -/
theorem less_dec (x y : List UInt8) : Op.bytesLess (B x).toList (B y).toList = decide (x < y) := by rw [B_toList, B_toList]; exact Go.Proofs.bytesLess_eq x y
theorem asc_drop {l : List (List UInt8)} (h : Asc l) (i : Nat) : Asc (l.drop i) := List.Pairwise.sublist (List.drop_sublist _ _) h
/-- Two rising rows are merged. -/
theorem merge_ev (X Y : List (List UInt8)) (hX : Asc X) (hY : Asc Y) (hl : X.length + Y.length < 4000000000000) : ∀ (d i j : Nat) (out : List (List UInt8)), X.length - i + (Y.length - j) = d → i ≤ X.length → j ≤ Y.length → out.length ≤ i + j →
  ∃ m : List (List UInt8), Asc m ∧ (∀ z, z ∈ m ↔ z ∈ X.drop i ∨ z ∈ Y.drop j) ∧ Ev (fun k => entailref1_Texts.l0 k (X.map B) (Y.map B) (out.map B) (i : Int) (j : Int)) ((out ++ m).map B)
 | d, i, j, out, hd, hi, hj, ho => by
  have start : ∀ k, entailref1_Texts.l0 (k + 1) (X.map B) (Y.map B) (out.map B) (i : Int) (j : Int) = entailref1_Texts.j1 k (X.map B) (Y.map B) (out.map B) (i : Int) (j : Int) (decide (i < X.length ∨ j < Y.length)) := by
   intro k
   conv => lhs; unfold entailref1_Texts.l0
   rw [List.length_map, List.length_map]
   by_cases h : i < X.length
   ·rw [if_pos (by omega), decide_eq_true (.inl h)]
   ·rw [if_neg (by omega)]
    congr 1
    exact decide_eq_decide.2 ⟨fun h => .inr (by omega), fun h => by omega⟩
  have step1 : ∀ k, entailref1_Texts.j1 (k + 1) (X.map B) (Y.map B) (out.map B) (i : Int) (j : Int) true =
    if h : j < Y.length then (if h' : i < X.length then entailref1_Texts.j2 k (X.map B) (Y.map B) (out.map B) (i : Int) (j : Int) (decide (X[i] < Y[j])) else entailref1_Texts.j2 k (X.map B) (Y.map B) (out.map B) (i : Int) (j : Int) false)
    else entailref1_Texts.j2 k (X.map B) (Y.map B) (out.map B) (i : Int) (j : Int) true := by
   intro k
   conv => lhs; unfold entailref1_Texts.j1
   rw [if_pos rfl, List.length_map, List.length_map]
   by_cases h : j < Y.length
   ·rw [dif_pos h, if_neg (by omega)]
    by_cases h' : i < X.length
    ·rw [dif_pos h', if_pos (by omega), if_pos (by omega), if_pos (by omega), if_pos (by omega), rd_B X i h', rd_B Y j h, less_dec]
    ·rw [dif_neg h', if_neg (by omega)]
   ·rw [dif_neg h, if_pos (by omega)]
  have takeX : ∀ (h : i < X.length) k, entailref1_Texts.j2 (k + 1) (X.map B) (Y.map B) (out.map B) (i : Int) (j : Int) true = entailref1_Texts.l0 k (X.map B) (Y.map B) ((out ++ [X[i]]).map B) ((i + 1 : Nat) : Int) (j : Int) := by
   intro h k
   conv => lhs; unfold entailref1_Texts.j2
   rw [if_pos rfl, if_pos (by omega), if_pos (by rw [List.length_map]; omega), if_pos (by rw [List.length_map]; omega), rd_B X i h, nat_wrap1 (by omega), List.map_append]; rfl
  have step2 : ∀ (h : j < Y.length) k, entailref1_Texts.j2 (k + 1) (X.map B) (Y.map B) (out.map B) (i : Int) (j : Int) false =
    if h' : i < X.length then entailref1_Texts.j3 k (X.map B) (Y.map B) (out.map B) (i : Int) (j : Int) (decide (Y[j] < X[i])) else entailref1_Texts.j3 k (X.map B) (Y.map B) (out.map B) (i : Int) (j : Int) true := by
   intro h k
   conv => lhs; unfold entailref1_Texts.j2
   rw [if_neg (by decide), List.length_map, List.length_map]
   by_cases h' : i < X.length
   ·rw [dif_pos h', if_neg (by omega), if_pos (by omega), if_pos (by omega), if_pos (by omega), if_pos (by omega), rd_B X i h', rd_B Y j h, less_dec]
   ·rw [dif_neg h', if_pos (by omega)]
  have takeY : ∀ (h : j < Y.length) k, entailref1_Texts.j3 (k + 1) (X.map B) (Y.map B) (out.map B) (i : Int) (j : Int) true = entailref1_Texts.l0 k (X.map B) (Y.map B) ((out ++ [Y[j]]).map B) (i : Int) ((j + 1 : Nat) : Int) := by
   intro h k
   conv => lhs; unfold entailref1_Texts.j3
   rw [if_pos rfl, if_pos (by omega), if_pos (by rw [List.length_map]; omega), if_pos (by rw [List.length_map]; omega), rd_B Y j h, nat_wrap1 (by omega), List.map_append]; rfl
  have skipX : ∀ (h : i < X.length) k, entailref1_Texts.j3 (k + 1) (X.map B) (Y.map B) (out.map B) (i : Int) (j : Int) false = entailref1_Texts.l0 k (X.map B) (Y.map B) (out.map B) ((i + 1 : Nat) : Int) (j : Int) := by
   intro h k
   conv => lhs; unfold entailref1_Texts.j3
   rw [if_neg (by decide), nat_wrap1 (by omega)]
  -- an element that is less than all that follows, in front
  have front : ∀ (z : List UInt8) (m : List (List UInt8)), Asc m → (∀ y ∈ m, z < y) → Asc (z :: m) := fun z m hm hz => List.pairwise_cons.2 ⟨hz, hm⟩
  have appX : ∀ (h : i < X.length), (∀ y, y ∈ Y.drop j → X[i] < y) →
    ∃ m : List (List UInt8), Asc m ∧ (∀ z, z ∈ m ↔ z ∈ X.drop i ∨ z ∈ Y.drop j) ∧ Ev (fun k => entailref1_Texts.j2 k (X.map B) (Y.map B) (out.map B) (i : Int) (j : Int) true) ((out ++ m).map B) := by
   intro h hy
   obtain ⟨m, m1, m2, m3⟩ := merge_ev X Y hX hY hl (d - 1) (i + 1) j (out ++ [X[i]]) (by omega) (by omega) hj (by rw [List.length_append, List.length_singleton]; omega)
   have hp := asc_drop hX i
   rw [List.drop_eq_getElem_cons h] at hp
   obtain ⟨hp1, _⟩ := List.pairwise_cons.1 hp
   refine ⟨X[i] :: m, front _ m m1 (fun y hy2 => ?_), fun z => ?_, ?_⟩
   ·rcases (m2 y).1 hy2 with q | q
    ·exact hp1 y q
    ·exact hy y q
   ·rw [List.mem_cons, m2 z, List.drop_eq_getElem_cons h, List.mem_cons]
    exact or_assoc.symm
   ·rw [List.append_cons]
    exact Ev.step (fun k => takeX h k) m3
  have appY : ∀ (h : j < Y.length), (∀ y, y ∈ X.drop i → Y[j] < y) →
    ∃ m : List (List UInt8), Asc m ∧ (∀ z, z ∈ m ↔ z ∈ X.drop i ∨ z ∈ Y.drop j) ∧ Ev (fun k => entailref1_Texts.j3 k (X.map B) (Y.map B) (out.map B) (i : Int) (j : Int) true) ((out ++ m).map B) := by
   intro h hy
   obtain ⟨m, m1, m2, m3⟩ := merge_ev X Y hX hY hl (d - 1) i (j + 1) (out ++ [Y[j]]) (by omega) hi (by omega) (by rw [List.length_append, List.length_singleton]; omega)
   have hp := asc_drop hY j
   rw [List.drop_eq_getElem_cons h] at hp
   obtain ⟨hp1, _⟩ := List.pairwise_cons.1 hp
   refine ⟨Y[j] :: m, front _ m m1 (fun y hy2 => ?_), fun z => ?_, ?_⟩
   ·rcases (m2 y).1 hy2 with q | q
    ·exact hy y q
    ·exact hp1 y q
   ·rw [List.mem_cons, m2 z, List.drop_eq_getElem_cons h, List.mem_cons]
    constructor
    ·rintro (q | q | q)
     ·exact .inr (.inl q)
     ·exact .inl q
     ·exact .inr (.inr q)
    ·rintro (q | q | q)
     ·exact .inr (.inl q)
     ·exact .inl q
     ·exact .inr (.inr q)
   ·rw [List.append_cons]
    exact Ev.step (fun k => takeY h k) m3
  by_cases hgo : i < X.length ∨ j < Y.length
  ·rw [decide_eq_true hgo] at start
   have lift : ∀ {v}, Ev (fun k => entailref1_Texts.j1 k (X.map B) (Y.map B) (out.map B) (i : Int) (j : Int) true) v → Ev (fun k => entailref1_Texts.l0 k (X.map B) (Y.map B) (out.map B) (i : Int) (j : Int)) v := fun h => Ev.step start h
   by_cases h : j < Y.length
   ·by_cases h' : i < X.length
    ·have headX : ∀ z, z ∈ X.drop i → z = X[i] ∨ X[i] < z := by
      intro z hz
      have hp := asc_drop hX i
      rw [List.drop_eq_getElem_cons h'] at hp hz
      obtain ⟨hp1, _⟩ := List.pairwise_cons.1 hp
      rcases List.mem_cons.1 hz with q | q
      ·exact .inl q
      ·exact .inr (hp1 z q)
     have headY : ∀ z, z ∈ Y.drop j → z = Y[j] ∨ Y[j] < z := by
      intro z hz
      have hp := asc_drop hY j
      rw [List.drop_eq_getElem_cons h] at hp hz
      obtain ⟨hp1, _⟩ := List.pairwise_cons.1 hp
      rcases List.mem_cons.1 hz with q | q
      ·exact .inl q
      ·exact .inr (hp1 z q)
     by_cases c1 : X[i] < Y[j]
     ·obtain ⟨m, m1, m2, m3⟩ := appX h' (fun y hy => by
       rcases headY y hy with q | q
       ·rw [q]; exact c1
       ·exact List.lt_trans c1 q)
      exact ⟨m, m1, m2, lift (Ev.step (fun k => by rw [step1 k, dif_pos h, dif_pos h', decide_eq_true c1]) m3)⟩
     ·by_cases c2 : Y[j] < X[i]
      ·obtain ⟨m, m1, m2, m3⟩ := appY h (fun y hy => by
        rcases headX y hy with q | q
        ·rw [q]; exact c2
        ·exact List.lt_trans c2 q)
       exact ⟨m, m1, m2, lift (Ev.step (fun k => by rw [step1 k, dif_pos h, dif_pos h', decide_eq_false c1]) (Ev.step (fun k => by rw [step2 h k, dif_pos h', decide_eq_true c2]) m3))⟩
      ·have eq : X[i] = Y[j] := tri c1 c2
       obtain ⟨m, m1, m2, m3⟩ := merge_ev X Y hX hY hl (d - 1) (i + 1) j out (by omega) (by omega) hj (by omega)
       refine ⟨m, m1, fun z => ?_, lift (Ev.step (fun k => by rw [step1 k, dif_pos h, dif_pos h', decide_eq_false c1]) (Ev.step (fun k => by rw [step2 h k, dif_pos h', decide_eq_false c2]) (Ev.step (fun k => skipX h' k) m3)))⟩
       rw [m2 z, List.drop_eq_getElem_cons h', List.mem_cons]
       constructor
       ·rintro (q | q)
        ·exact .inl (.inr q)
        ·exact .inr q
       ·rintro ((q | q) | q)
        ·exact .inr (by rw [q, eq, List.drop_eq_getElem_cons h]; exact List.mem_cons_self)
        ·exact .inl q
        ·exact .inr q
    ·obtain ⟨m, m1, m2, m3⟩ := appY h (fun y hy => by rw [List.drop_eq_nil_of_le (by omega)] at hy; cases hy)
     exact ⟨m, m1, m2, lift (Ev.step (fun k => by rw [step1 k, dif_pos h, dif_neg h']) (Ev.step (fun k => by rw [step2 h k, dif_neg h']) m3))⟩
   ·have h' : i < X.length := by omega
    obtain ⟨m, m1, m2, m3⟩ := appX h' (fun y hy => by rw [List.drop_eq_nil_of_le (by omega)] at hy; cases hy)
    exact ⟨m, m1, m2, lift (Ev.step (fun k => by rw [step1 k, dif_neg h]) m3)⟩
  ·rw [decide_eq_false hgo] at start
   refine ⟨[], List.Pairwise.nil, fun z => ?_, ?_⟩
   ·rw [List.drop_eq_nil_of_le (by omega), List.drop_eq_nil_of_le (by omega)]; simp
   ·rw [List.append_nil]
    refine Ev.step start (Ev.step (g := fun _ => some (out.map B)) (fun k => ?_) (Ev.pure _))
    unfold entailref1_Texts.j1
    rw [if_neg (by decide)]
 termination_by d => d
 decreasing_by all_goals omega
theorem Texts_ev : ∀ (n : Nat) (X : List (List UInt8)), X.length ≤ n → X.length < 1000000000000 → Ev (fun k => entailref1_Texts.f k (X.map B)) ((uniq X).map B)
 | n, X, hn, hl => by
  by_cases h2 : X.length < 2
  ·have e : uniq X = X := uniq_asc (by
    match X, h2 with
    | [], _ => exact List.Pairwise.nil
    | [x], _ => simp [Asc])
   rw [e]
   refine Ev.step (g := fun _ => some (X.map B)) (fun k => ?_) (Ev.pure _)
   conv => lhs; unfold entailref1_Texts.f
   rw [if_pos (by rw [List.length_map]; omega), Option.bind_some, if_pos (by rw [List.length_map]; simp; omega), List.nil_append]
  ·have hh : wrap64 (((X.map B).length : Int) / 2) = ((X.length / 2 : Nat) : Int) := by rw [List.length_map, wrap_small (by omega) (by omega)]; omega
   have a := Texts_ev (n - 1) (X.take (X.length / 2)) (by rw [List.length_take]; omega) (by rw [List.length_take]; omega)
   have b := Texts_ev (n - 1) (X.drop (X.length / 2)) (by rw [List.length_drop]; omega) (by rw [List.length_drop]; omega)
   have l1 := uniq_len (X.take (X.length / 2))
   have l2 := uniq_len (X.drop (X.length / 2))
   rw [List.length_take] at l1
   rw [List.length_drop] at l2
   obtain ⟨m, m1, m2, m3⟩ := merge_ev _ _ (asc_uniq (X.take (X.length / 2))) (asc_uniq (X.drop (X.length / 2))) (by omega) _ 0 0 [] rfl (Nat.zero_le _) (Nat.zero_le _) (Nat.zero_le _)
   have e : m = uniq X := uniq_eq m1 fun z => by
    rw [m2 z, List.drop_zero, List.drop_zero, mem_uniq, mem_uniq, ← List.mem_append, List.take_append_drop]
   rw [List.nil_append, e] at m3
   refine Ev.step (g := fun k => (entailref1_Texts.f k ((X.take (X.length / 2)).map B)).bind fun t => (entailref1_Texts.f k ((X.drop (X.length / 2)).map B)).bind fun u => entailref1_Texts.l0 k t u [] 0 0) (fun k => ?_) (Ev.bind a (Ev.bind b m3))
   conv => lhs; unfold entailref1_Texts.f
   rw [if_neg (by rw [List.length_map]; omega), hh, if_pos (by omega), if_pos (by rw [List.length_map]; omega), Int.toNat_natCast, ← List.map_take, ← List.map_drop]
 termination_by n => n
 decreasing_by all_goals omega
end Go.Proofs.Ytppndhbeglcioaa.Pl
