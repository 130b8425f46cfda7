/- The plain law of GlobMatch: the printed function answers true at every row of texts and every two numbers; and the walk with it. -/
import Derived.Test.YtppndhbeglcioaaPlGlob
import Derived.Test.YtppndhbeglcioaaGAx22
namespace Go.Proofs.Ytppndhbeglcioaa.Pl
open Go.RowKit Go.Proofs.YtppndhbeglcioaaUniq Go.Proofs.Ytppndhbeglcioaa.GA Go.Proofs.YtppndhbeglcioaaW.PrintWords Go.Proofs.YtppndhbeglcioaaW.PrintLast Go.Proofs.YtppndhbeglcioaaW.PrintMore
set_option linter.unusedVariables false
set_option linter.unusedSimpArgs false
theorem awake_ev : Ev (fun k => entaillaw24_awake.f k) true := Ev.mono (fun k => entaillaw24_awake.mono k) (K := 60) (by decide +kernel)
/-! ### Names of few bytes -/
def okc (c : UInt8) : Bool := (97 ≤ c.toNat && c.toNat ≤ 122) || (48 ≤ c.toNat && c.toNat ≤ 57) || c == 95 || c == 45 || c == 46
theorem name_all : ∀ c : Fin 256, entailref1_Name.f 12 (B [110, UInt8.ofNat c.val]) = some (okc (UInt8.ofNat c.val)) := by decide +kernel
theorem name_ev (c : UInt8) : Ev (fun k => entailref1_Name.f k (B [110, c])) (okc c) := by
  have h := name_all ⟨c.toNat, UInt8.toNat_lt c⟩
  have e : UInt8.ofNat c.toNat = c := by simp
  simp only [e] at h
  exact Ev.mono (fun k => entailref1_Name.mono _ k) h
def okN (t : List UInt8) : Prop := t.length ≤ 12 ∧ ∀ c ∈ t, c ≠ 42
theorem wrap1 {i : Nat} (h : i < 9223372036854775807) : wrap64 ((i : Int) + 1) = ((i + 1 : Nat) : Int) := by rw [wrap_small (by omega) (by omega)]; omega
theorem tame_l0 (s : List UInt8) (hs : s.length ≤ 9223372036854775807) : ∀ (d i : Nat) (t : List UInt8), s.length - i = d → i ≤ s.length → okN t → ∃ u, okN u ∧ Ev (fun k => entaillaw1_Tame.l0 k (B s) (B t) (i : Int)) (B u)
  | d, i, t, hd, hi, ht => by
    by_cases hgo : i < s.length ∧ t.length < 12
    · obtain ⟨d', rfl⟩ : ∃ d', d = d' + 1 := ⟨d - 1, by omega⟩
      have hcut : (B s).extract i (i + 1) = B [s[i]] := by
        rw [B_cut, List.drop_eq_getElem_cons hgo.1, Nat.add_sub_cancel_left]; rfl
      have hn : B [110] ++ B [s[i]] = B [110, s[i]] := B_app _ _
      have st : ∀ k, entaillaw1_Tame.l0 (k + 1) (B s) (B t) (i : Int) = entaillaw1_Tame.j1 k (B s) (B t) (i : Int) true := by
        intro k
        conv => lhs; unfold entaillaw1_Tame.l0
        rw [if_pos (by rw [B_size]; omega), decide_eq_true (by rw [B_size]; omega)]
      have st1 : ∀ k, entaillaw1_Tame.j1 (k + 1) (B s) (B t) (i : Int) true = (entailref1_Name.f k (B [110, s[i]])).bind fun b => if b = true then entaillaw1_Tame.l0 k (B s) (B (t ++ [s[i]])) ((i + 1 : Nat) : Int) else entaillaw1_Tame.l0 k (B s) (B t) ((i + 1 : Nat) : Int) := by
        intro k
        conv => lhs; unfold entaillaw1_Tame.j1
        have e0 : (⟨#[110]⟩ : ByteArray) = B [110] := rfl
        rw [if_pos rfl, wrap1 (by omega), if_pos (by omega), if_pos (by omega), if_pos (by rw [B_size]; omega), Int.toNat_natCast, Int.toNat_natCast, hcut, if_pos (by rw [B_size]; simp), e0, hn, if_pos (by rw [B_size, B_size, List.length_singleton]; omega), B_app]
      by_cases hb : okc s[i] = true
      · have hne : s[i] ≠ 42 := by
          intro e; rw [e] at hb; exact absurd hb (by decide)
        obtain ⟨u, hu, hev⟩ := tame_l0 s hs d' (i + 1) (t ++ [s[i]]) (by omega) (by omega) ⟨by rw [List.length_append, List.length_singleton]; omega, fun c hc => by
          rcases List.mem_append.1 hc with h | h
          · exact ht.2 c h
          · rw [List.mem_singleton] at h; rw [h]; exact hne⟩
        refine ⟨u, hu, Ev.step st (Ev.step st1 (Ev.bind (name_ev s[i]) ?_))⟩
        exact Ev.congr (fun k => by rw [hb, if_pos rfl]) hev
      · obtain ⟨u, hu, hev⟩ := tame_l0 s hs d' (i + 1) t (by omega) (by omega) ht
        refine ⟨u, hu, Ev.step st (Ev.step st1 (Ev.bind (name_ev s[i]) ?_))⟩
        exact Ev.congr (fun k => by rw [if_neg hb]) hev
    · refine ⟨t, ht, Ev.step (g := fun k => entaillaw1_Tame.j1 k (B s) (B t) (i : Int) false) (fun k => ?_) (Ev.step (g := fun _ => some (B t)) (fun k => ?_) (Ev.pure _))⟩
      · conv => lhs; unfold entaillaw1_Tame.l0
        by_cases h1 : (i : Int) < ((B s).size : Int)
        · rw [if_pos h1, decide_eq_false (by rw [B_size] at h1 ⊢; omega)]
        · rw [if_neg h1]
      · rw [entaillaw1_Tame.j1]; rfl
theorem tame_ev (s : ByteArray) (hs : s.size ≤ 9223372036854775807) : ∃ u, okN u ∧ Ev (fun k => entaillaw1_Tame.f k s) (B u) := by
  have h := tame_l0 s.data.toList (by rw [Array.length_toList]; exact hs) s.data.toList.length 0 [110] (by omega) (by omega) ⟨by decide, by decide⟩
  rw [B_of] at h
  exact h
/-! ### The law -/
theorem okN_last {x : List UInt8} (h : okN x) : x.getLast? ≠ some 42 := fun e => h.2 42 (List.mem_of_getLast? e) rfl
theorem mt_name {x y : List UInt8} (h : okN x) : mt x y = (x == y) := by unfold mt; rw [if_neg (okN_last h)]
theorem mt_star (a y : List UInt8) : mt (a ++ [42]) y = a.isPrefixOf y := by unfold mt; rw [if_pos (by simp), List.dropLast_concat]
theorem big_of {X : List (List UInt8)} (hX : ∀ x ∈ X, okN x) : ∀ x ∈ X, x.length < 4611686018427387904 := fun x hx => by have := (hX x hx).1; omega
theorem tail_ev (X : List (List UInt8)) (hX : ∀ x ∈ X, okN x) (hl : X.length ≤ 12) (x : List UInt8) (hx : okN x) (h : List UInt8) (hh : h.length ≤ 12) :
    ∀ (d i : Nat), X.length - i = d → i ≤ X.length → Ev (fun k => entaillaw24_GlobMatch.l1 k (X.map B) (B x) (B h) (((X.take i).filter fun y => h.isPrefixOf y).map B) (i : Int)) true
  | 0, i, hd, hi => by
    rw [List.take_of_length_le (by omega)]
    have e0 : (⟨#[42]⟩ : ByteArray) = B [42] := rfl
    have a := Over_ev [h ++ [42]] X (fun p hp => by rw [List.mem_singleton] at hp; rw [hp, List.length_append, List.length_singleton]; omega) (big_of hX) (by omega)
    have e1 : (X.filter fun x => [h ++ [42]].any fun p => mt p x) = X.filter fun y => h.isPrefixOf y := List.filter_congr fun y _ => by rw [List.any_cons, List.any_nil, Bool.or_false, mt_star]
    rw [e1] at a
    have hf : (X.filter fun y => h.isPrefixOf y).length ≤ X.length := List.length_filter_le _ _
    have b := Texts_ev _ (X.filter fun y => h.isPrefixOf y) (Nat.le_refl _) (by omega)
    have hu := uniq_len (X.filter fun y => h.isPrefixOf y)
    have c := SameTexts_ev (uniq (X.filter fun y => h.isPrefixOf y)) (uniq (X.filter fun y => h.isPrefixOf y)) (by omega)
    rw [decide_eq_true rfl] at c
    have a2 := Over_ev [[42], x] X (fun p hp => by
      rcases List.mem_cons.1 hp with q | q
      · rw [q]; decide
      · rw [List.mem_singleton] at q; rw [q]; have := hx.1; omega) (big_of hX) (by omega)
    have e2 : (X.filter fun y => [[42], x].any fun p => mt p y) = X := List.filter_eq_self.2 fun y _ => by rw [List.any_cons]; rfl
    rw [e2] at a2
    have b2 := Texts_ev _ X (Nat.le_refl _) (by omega)
    have hu2 := uniq_len X
    have c2 := SameTexts_ev (uniq X) (uniq X) (by omega)
    rw [decide_eq_true rfl] at c2
    have a3 := Over_ev [] X (fun p hp => by cases hp) (big_of hX) (by omega)
    have e3 : (X.filter fun y => ([] : List (List UInt8)).any fun p => mt p y) = [] := List.filter_eq_nil_iff.2 fun y _ => by simp
    rw [e3] at a3
    refine Ev.step (g := fun k => (glob_Over.f k ([h ++ [42]].map B) (X.map B)).bind fun t => (entailref1_Texts.f k ((X.filter fun y => h.isPrefixOf y).map B)).bind fun u => (entailref1_SameTexts.f k t u).bind fun b =>
      if b = true then (glob_Over.f k ([[42], x].map B) (X.map B)).bind fun t => (entailref1_Texts.f k (X.map B)).bind fun u => (entailref1_SameTexts.f k t u).bind fun b => if b = true then (glob_Over.f k (([] : List (List UInt8)).map B) (X.map B)).bind fun t => if (t.length : Int) = 0 then (entaillaw24_awake.f k).bind fun t => some t else some false else some false else some false) (fun k => ?_) ?_
    · conv => lhs; unfold entaillaw24_GlobMatch.l1
      rw [if_neg (by rw [List.length_map]; omega), if_pos (by rw [B_size]; omega), e0, B_app]
      rfl
    · refine Ev.bind a (Ev.bind b (Ev.bind c ?_))
      refine Ev.congr (fun k => if_pos rfl) ?_
      refine Ev.bind a2 (Ev.bind b2 (Ev.bind c2 ?_))
      refine Ev.congr (fun k => if_pos rfl) ?_
      refine Ev.bind a3 ?_
      refine Ev.congr (fun k => if_pos rfl) ?_
      exact Ev.bind awake_ev (Ev.pure _)
  | d + 1, i, hd, hi => by
    have h' : i < X.length := by omega
    have ih := tail_ev X hX hl x hx h hh d (i + 1) (by omega) (by omega)
    have hy := hX _ (List.getElem_mem h')
    have hf : ((X.take i).filter fun y => h.isPrefixOf y).length ≤ X.length := by
      have := List.length_filter_le (fun y => h.isPrefixOf y) (X.take i)
      rw [List.length_take] at this; omega
    have e0 : (⟨#[42]⟩ : ByteArray) = B [42] := rfl
    rw [List.take_succ_eq_append_getElem h', List.filter_append] at ih
    -- the three matches
    have s4 : ∀ k (out : List ByteArray), entaillaw24_GlobMatch.j4 (k + 1) (X.map B) (B x) (B h) out (i : Int) (h.isPrefixOf X[i]) = entaillaw24_GlobMatch.j5 k (X.map B) (B x) (B h) out (i : Int) false := by
      intro k out
      conv => lhs; unfold entaillaw24_GlobMatch.j4
      rw [if_pos (by rw [B_size]; omega), if_pos (by omega), if_pos (by rw [List.length_map]; omega), rd_B X i h', e0, B_app, Match_f _ _ (by rw [List.length_append, List.length_singleton]; omega) (by have := hy.1; omega), Option.bind_some, mt_star, if_neg (by simp),
        Match_f _ _ (by have := hx.1; omega) (by have := hy.1; omega), Option.bind_some, mt_name hx, B_toList, B_toList, if_neg (by simp), Match_f _ _ (by decide) (by have := hy.1; omega), Option.bind_some]
      rfl
    have s5 : ∀ k (out : List ByteArray), entaillaw24_GlobMatch.j5 (k + 1) (X.map B) (B x) (B h) out (i : Int) false = entaillaw24_GlobMatch.l1 k (X.map B) (B x) (B h) out ((i + 1 : Nat) : Int) := by
      intro k out
      rw [entaillaw24_GlobMatch.j5, if_neg (by decide), nat_wrap1 (by omega)]
    have s1 : ∀ k, entaillaw24_GlobMatch.l1 (k + 1) (X.map B) (B x) (B h) (((X.take i).filter fun y => h.isPrefixOf y).map B) (i : Int) = entaillaw24_GlobMatch.j3 k (X.map B) (B x) (B h) (((X.take i).filter fun y => h.isPrefixOf y).map B) (i : Int) (h.isPrefixOf X[i]) := by
      intro k
      conv => lhs; unfold entaillaw24_GlobMatch.l1
      rw [if_pos (by rw [List.length_map]; omega), if_pos (by omega), rd_B X i h', B_size, B_size, prefix_iff]
      by_cases hle : h.length ≤ X[i].length
      · rw [if_pos (by omega), if_pos (by omega), if_pos (by omega), Int.toNat_natCast, B_cut, B_toList, B_toList, List.drop_zero, Nat.sub_zero, decide_eq_true hle, Bool.true_and]
      · rw [if_neg (by omega), decide_eq_false hle]; rfl
    refine Ev.step s1 ?_
    cases hp : h.isPrefixOf X[i] with
    | true =>
      rw [hp] at s4
      rw [List.filter_cons, if_pos hp, List.filter_nil, List.map_append] at ih
      refine Ev.step (g := fun k => entaillaw24_GlobMatch.j4 k (X.map B) (B x) (B h) (((X.take i).filter fun y => h.isPrefixOf y).map B ++ [B X[i]]) (i : Int) true) (fun k => ?_) (Ev.step (fun k => s4 k _) (Ev.step (fun k => s5 k _) ih))
      rw [entaillaw24_GlobMatch.j3, if_pos rfl, if_pos (by omega), if_pos (by rw [List.length_map]; omega), if_pos (by rw [List.length_map]; omega), rd_B X i h']
    | false =>
      rw [hp] at s4
      rw [List.filter_cons, if_neg (by rw [hp]; decide), List.filter_nil, List.append_nil] at ih
      refine Ev.step (g := fun k => entaillaw24_GlobMatch.j4 k (X.map B) (B x) (B h) (((X.take i).filter fun y => h.isPrefixOf y).map B) (i : Int) false) (fun k => ?_) (Ev.step (fun k => s4 k _) (Ev.step (fun k => s5 k _) ih))
      rw [entaillaw24_GlobMatch.j3, if_neg (by decide)]
theorem main_ev (l : List ByteArray) (hl : ∀ x ∈ l, x.size ≤ 9223372036854775807) (at_ cut : Int) : ∀ (d i : Nat) (X : List (List UInt8)), 12 - i = d → i ≤ 12 → i ≤ l.length → X.length = i → (∀ x ∈ X, okN x) → Ev (fun k => entaillaw24_GlobMatch.l0 k l at_ cut (X.map B) (i : Int)) true
  | d, i, X, hd, hi, hil, hXl, hX => by
    by_cases hgo : i < l.length ∧ i < 12
    · obtain ⟨d', rfl⟩ : ∃ d', d = d' + 1 := ⟨d - 1, by omega⟩
      obtain ⟨u, hu, hev⟩ := tame_ev l[i] (hl _ (List.getElem_mem hgo.1))
      have ih := main_ev l hl at_ cut d' (i + 1) (X ++ [u]) (by omega) (by omega) (by omega) (by rw [List.length_append, List.length_singleton, hXl]) (fun x hx => by
        rcases List.mem_append.1 hx with q | q
        · exact hX x q
        · rw [List.mem_singleton] at q; rw [q]; exact hu)
      refine Ev.step (g := fun k => entaillaw24_GlobMatch.j1 k l at_ cut (X.map B) (i : Int) true) (fun k => ?_) (Ev.step (g := fun k => (entaillaw1_Tame.f k l[i]).bind fun t => entaillaw24_GlobMatch.l0 k l at_ cut (X.map B ++ [t]) ((i + 1 : Nat) : Int)) (fun k => ?_) (Ev.bind hev ?_))
      · conv => lhs; unfold entaillaw24_GlobMatch.l0
        rw [if_pos (by omega), decide_eq_true (by omega)]
      · rw [entaillaw24_GlobMatch.j1, if_pos rfl, if_pos (by omega), if_pos (by omega), rd_S l i hgo.1, nat_wrap1 (by omega)]
        simp only [if_pos (show (X.map B).length < 8796093022208 by rw [List.length_map]; omega)]
      · rw [List.map_append] at ih; exact ih
    · refine Ev.step (g := fun k => entaillaw24_GlobMatch.j1 k l at_ cut (X.map B) (i : Int) false) (fun k => ?_) ?_
      · conv => lhs; unfold entaillaw24_GlobMatch.l0
        by_cases h1 : (i : Int) < (l.length : Int)
        · rw [if_pos h1, decide_eq_false (by omega)]
        · rw [if_neg h1]
      · by_cases h0 : X.length = 0
        · obtain rfl := List.eq_nil_of_length_eq_zero h0
          have a := Over_ev [[42]] [] (fun p hp => by rw [List.mem_singleton] at hp; rw [hp]; decide) (fun x hx => by cases hx) (by decide)
          refine Ev.step (g := fun k => (glob_Over.f k ([[42]].map B) (([] : List (List UInt8)).map B)).bind fun t => if (t.length : Int) = 0 then (entaillaw24_awake.f k).bind fun t => some t else some false) (fun k => ?_) (Ev.bind a ?_)
          · rw [entaillaw24_GlobMatch.j1, if_neg (by decide), if_pos (show (((List.map B ([] : List (List UInt8))).length : Nat) : Int) = 0 from rfl)]; rfl
          · exact Ev.congr (fun k => if_pos rfl) (Ev.bind awake_ev (Ev.pure _))
        · have b := and_mod at_ X.length (by omega)
          obtain ⟨j, hj, hjl⟩ := nat_of b
          have hx := hX _ (List.getElem_mem hjl)
          have c := and_mod cut (X[j].length + 1) (by omega)
          obtain ⟨q, hq, hql⟩ := nat_of c
          have hxl := hx.1
          refine Ev.step (fun k => ?_) (tail_ev X hX (by omega) X[j] hx (X[j].take q) (by rw [List.length_take]; omega) X.length 0 (by omega) (by omega))
          rw [entaillaw24_GlobMatch.j1, if_neg (by decide), if_neg (by rw [List.length_map]; omega), List.length_map, hj, if_pos (by omega), if_pos (by omega), rd_B X j hjl, B_size, nat_wrap1 (by omega), if_neg (by omega), hq, if_pos (by omega), if_pos (by omega), Int.toNat_natCast, B_cut, List.drop_zero, Nat.sub_zero, List.take_zero]
          rfl
theorem GlobMatch_ev (l : List ByteArray) (hl : ∀ x ∈ l, x.size ≤ 9223372036854775807) (at_ cut : Int) : Ev (fun k => entaillaw24_GlobMatch.f k l at_ cut) true := main_ev l hl at_ cut 12 0 [] rfl (by omega) (Nat.zero_le _) rfl (fun x hx => by cases hx)
theorem GlobMatch_walk (A0 : Option Addr) (c0 : Nat) (l0 : List ByteArray) (a1 a2 : Int) (w : World) (w0 : Kd.C Kd.string w A0 l0.length l0 ∧ l0.length ≤ c0) (q0 : ∀ x ∈ l0, x.size ≤ maxLen) (w1 : (Lit.int .i64 a1).wf = true) (w2 : (Lit.int .i64 a2).wf = true) :
    Calls Try.prog 5 #[.slice A0 l0.length c0, .int .i64 a1, .int .i64 a2] w fun e w' => e = .returned (.bool true) ∧ Below w.heap.size w w' := by
  obtain ⟨k, h⟩ := (GlobMatch_ev l0 q0 a1 a2).ex
  exact entaillaw24_GlobMatch.calls k A0 c0 l0 a1 a2 true w w0.1 w0.2 h
end Go.Proofs.Ytppndhbeglcioaa.Pl
