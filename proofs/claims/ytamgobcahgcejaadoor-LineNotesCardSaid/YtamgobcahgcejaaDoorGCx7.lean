-- Written by gprint.py, a program of this session's: the kit's printer over contracts that were proved by hand. Lean checks it.
import Derived.Test.YtamgobcahgcejaaDoorGCx0
namespace Go.Proofs.YtamgobcahgcejaaDoor.GC
open Go.RowKit Go.Proofs.YtamgobcahgcejaaDoorW.PrintWords Go.Proofs.YtamgobcahgcejaaDoorW.PrintLast Go.Proofs.YtamgobcahgcejaaDoorW.PrintMore
attribute [local go_sem] max2_int min2_int max_two min_two max_three min_three max_four min_four   -- for this text's walks alone
set_option linter.unusedVariables false
set_option linter.unusedSimpArgs false

/-! ### line_words: function 18 -/
theorem indexByte_lt : ∀ (l : List UInt8) (c : UInt8), Lib.indexByte l c ≤ (l.length : Int)
  | [], _ => by simp [Lib.indexByte]
  | b :: l, c => by
    have := indexByte_lt l c
    have g := Lib.indexByte_ge l c
    unfold Lib.indexByte
    split
    · simp; omega
    · split
      · simp; omega
      · simp; omega
/-- Where a word ends: at the next blank or tab, or with the line. -/
def line_words.len (rest : ByteArray) : Int :=
  if Lib.indexByte rest.data.toList 32 < 0 then (if Lib.indexByte rest.data.toList 9 < 0 then (rest.size : Int) else Lib.indexByte rest.data.toList 9)
  else if 0 ≤ Lib.indexByte rest.data.toList 9 then (if Lib.indexByte rest.data.toList 9 < Lib.indexByte rest.data.toList 32 then Lib.indexByte rest.data.toList 9 else Lib.indexByte rest.data.toList 32) else Lib.indexByte rest.data.toList 32
def line_words.l0 : Nat → ByteArray → Int → List S34 → Nat → Option (List S34)
  | 0, _, _, _, _ => none
  | k + 1, s, at_, out, i =>
    if i < s.size then
      (if 0 ≤ Lib.indexByte [32, 9] ((s.extract i s.size).data.toList.getD 0 0) then line_words.l0 k s at_ out (i + 1)
       else if bt (s.extract i s.size) 0 = 35 then some out
       else if out.length < 5864062014805 then line_words.l0 k s at_ (out ++ [(⟨(s.extract i s.size).extract 0 (line_words.len (s.extract i s.size)).toNat, wrap64 (at_ + i)⟩ : S34)]) (i + (line_words.len (s.extract i s.size)).toNat) else none)
    else some out
def line_words.f (k : Nat) (a0 : ByteArray) (a1 : Int) : Option (List S34) := if a0.size ≤ 140737488355328 then line_words.l0 k a0 a1 [] 0 else none
theorem line_words.mono_l : ∀ k, (∀ y0 y1 y2 y3, LeO (line_words.l0 k y0 y1 y2 y3) (line_words.l0 (k + 1) y0 y1 y2 y3))
  | 0 => fun _ _ _ _ r h => by simp [line_words.l0] at h
  | k + 1 => by
    have ih := line_words.mono_l k
    intro y0 y1 y2 y3
    unfold line_words.l0
    repeat' first
      | (with_reducible exact ih _ _ _ _)
      | (with_reducible exact LeO.refl _)
      | (with_reducible exact LeO.none _)
      | (with_reducible refine LeO.ite ?_ ?_)
      | exact ih _ _ _ _
      | exact LeO.none _
theorem line_words.mono : ∀ a0 a1 k, LeO (line_words.f k a0 a1) (line_words.f (k + 1) a0 a1) := fun a0 a1 k => by
  have ih := line_words.mono_l k
  unfold line_words.f
  exact LeO.ite (ih _ _ _ _) (LeO.none _)
theorem line_words.len_le (rest : ByteArray) : line_words.len rest ≤ (rest.size : Int) := by
  have a := indexByte_lt rest.data.toList 32
  have b := indexByte_lt rest.data.toList 9
  have e : rest.data.toList.length = rest.size := by rw [Array.length_toList]; rfl
  rw [e] at a b
  unfold line_words.len
  repeat' split
  all_goals omega
theorem line_words.len_ge (rest : ByteArray) : 0 ≤ line_words.len rest := by
  unfold line_words.len
  repeat' split
  all_goals omega
theorem one_byte_w {a : ByteArray} (h : a.size = 1) : a = ⟨#[a.data.toList.getD 0 0]⟩ := by
  obtain ⟨⟨l⟩⟩ := a
  have h' : l.length = 1 := h
  match l, h' with
  | [c], _ => rfl
theorem first_byte (a : ByteArray) (h : 1 ≤ a.size) : a.extract 0 1 = ⟨#[a.data.toList.getD 0 0]⟩ := by
  obtain ⟨⟨l⟩⟩ := a
  have h' : 1 ≤ l.length := h
  match l, h' with
  | c :: l, _ =>
    rw [Lib.extract_eq]
    rfl
set_option maxHeartbeats 1000000 in
set_option maxRecDepth 100000 in
theorem line_words.calls (k : Nat) (a0 : ByteArray) (a1 : Int) (r : List S34) (w : World) (h : line_words.f k a0 a1 = some r) :
    Calls Tryd.prog 18 #[.string a0, .int .i64 a1] w fun e w' => ∃ v0_ : Value, e = .returned (v0_) ∧ Kd.R k34 34 w' w.heap.size (fun _ => True) v0_ r ∧ Below w.heap.size w w' := by
  have hu34 := Tryd.underlying34
  have HB := Aside0.mk (Below.refl w.heap.size w)
  unfold line_words.f at h
  by_cases hs : a0.size ≤ 140737488355328
  · rw [if_pos hs] at h
    have H' := Aside0.mk h
    clear h
    go_enter Tryd.func18, Tryd.ntmps18
    go_wp2
    go_loopg [5, 6] k (fun kq v5 v6 w' => ∃ (out : List S34) (i : Nat), v6 = .int .i64 (i : Int) ∧ Aside0 (i ≤ a0.size) ∧ Aside0 (line_words.l0 kq a0 a1 out i = some r) ∧ Aside0 (kq ≤ k) ∧ Aside0 (Kd.R k34 34 w' w.heap.size (fun _ => True) v5 out) ∧ Aside0 (Below w.heap.size w w'))
    case atStart => exact ⟨[], 0, rfl, ⟨Nat.zero_le _⟩, H', ⟨Nat.le_refl _⟩, ⟨Kd.R_nil _ _ _ _ _⟩, ⟨HB.out⟩⟩
    case round =>
      clear H' HB
      obtain ⟨out, i, rfl, HI, HA, HK, HO, HB⟩ := hrel
      cases gk with
      | zero => exact absurd HA.out (by simp [line_words.l0])
      | succ k1 =>
        have H := HA.out
        clear HA
        simp only [line_words.l0] at H
        by_cases c3 : i < a0.size
        · rw [if_pos c3] at H
          have c3b : decide ((i : Int) < (a0.size : Int)) = true := by simpa using c3
          have c3e : decide (i < a0.size) = true := by simpa using c3
          have c3c : (i : Int) ≤ (a0.size : Int) := by omega
          have c3d : (0 : Int) ≤ (i : Int) := by omega
          have H := Aside0.mk H
          rename_i H0
          clear H0
          have C3 := Aside0.mk c3
          clear c3
          go_upto_region 5 with (fail)
          have hz : (a0.extract i a0.size).size = a0.size - i := by rw [ByteArray.size_extract]; omega
          generalize a0.extract i a0.size = rest at H hz ⊢
          have h1 : 1 ≤ rest.size := by have := C3.out; omega
          have h1b : (1 : Int) ≤ (rest.size : Int) := by omega
          have HZ := Lib.hid hz
          clear hz c3b c3c
          have e1 := first_byte rest h1
          have hx := @Tryd.strings_Contains_one ⟨#[32, 9]⟩ (rest.data.toList.getD 0 0)
          rw [← e1] at hx
          have E1 := Lib.hid e1
          clear e1
          have H := H.out
          rename_i H0
          clear H0
          by_cases c4 : 0 ≤ Lib.indexByte [32, 9] (rest.data.toList.getD 0 0)
          · rw [if_pos c4] at H
            have hb : decide (0 ≤ Lib.indexByte (⟨#[32, 9]⟩ : ByteArray).data.toList (rest.data.toList.getD 0 0)) = true := decide_eq_true c4
            rw [hb] at hx
            clear hb c4
            have H' := Aside0.mk H
            clear H
            have hi1 : IntKind.i64.wrap ((i : Int) + 1) = (i : Int) + 1 := by have := HI.out; rw [IntKind.wrap_i64]; omega
            go_wp2_with (go_at_call 26; refine (hx _).mono ?_; rintro e w' ⟨rfl, rfl⟩)
            go_roundg k1
            case measure => have := HK.out; omega
            case rel => exact ⟨out, i + 1, by go_num, ⟨by have := C3.out; omega⟩, H', ⟨by have := HK.out; omega⟩, HO, HB⟩
          · rw [if_neg c4] at H
            have hb : decide (0 ≤ Lib.indexByte (⟨#[32, 9]⟩ : ByteArray).data.toList (rest.data.toList.getD 0 0)) = false := decide_eq_false c4
            rw [hb] at hx
            clear hb c4
            have q1 := eq_true (show 0 < rest.size by omega)
            have q2 := eq_true (show (0 : Int) < (rest.size : Int) by omega)
            have hx0 : ∀ h : 0 < rest.size, (((rest[0]'h).toNat : Nat) : Int) = bt rest 0 := bt_at rest 0
            by_cases c5 : bt rest 0 = 35
            · rw [if_pos c5] at H
              obtain rfl := Option.some.inj H
              have c5b : (bt rest 0 == 35) = true := beq_iff_eq.2 c5
              clear c5 H
              go_wp2_with (go_at_call 26; refine (hx _).mono ?_; rintro e w' ⟨rfl, rfl⟩)
              go_ret
              exact ⟨_, rfl, HO.out, HB.out⟩
            · rw [if_neg c5] at H
              have c5b : (bt rest 0 == 35) = false := beq_eq_false_iff_ne.2 c5
              clear c5
              by_cases c6 : out.length < 5864062014805
              · rw [if_pos c6] at H
                have C6 := Aside0.mk c6
                clear c6
                have hl1 : line_words.len rest ≤ (rest.size : Int) := line_words.len_le rest
                have hl0 : 0 ≤ line_words.len rest := line_words.len_ge rest
                have H' := Aside0.mk H
                clear H
                have ha := Tryd.strings_IndexByte rest 32
                have hb := Tryd.strings_IndexByte rest 9
                have g1 : (32 : Int).toNat.toUInt8 = 32 := rfl
                have g2 : (9 : Int).toNat.toUInt8 = 9 := rfl
                rw [g1] at ha
                rw [g2] at hb
                clear g1 g2
                generalize hn : Lib.indexByte rest.data.toList 32 = n at ha
                generalize hm : Lib.indexByte rest.data.toList 9 = m at hb
                have HN := Lib.hid hn
                have HM := Lib.hid hm
                clear hn hm
                have hlen : line_words.len rest = (if n < 0 then (if m < 0 then (rest.size : Int) else m) else if 0 ≤ m then (if m < n then m else n) else n) := by unfold line_words.len; rw [HN.out, HM.out]
                have hn0 := indexByte_lt rest.data.toList 32
                have hm0 := indexByte_lt rest.data.toList 9
                rw [HN.out] at hn0
                rw [HM.out] at hm0
                have hd : (rest.data.toList.length : Int) = (rest.size : Int) := by rw [Array.length_toList]; rfl
                rw [hd] at hn0 hm0
                clear hd
                have hi1 := HI.out
                have hi2 := C3.out
                have hi3 := HZ.out
                have hrs : (i : Int) + (rest.size : Int) ≤ 140737488355328 := by omega
                clear hi1 hi2 hi3 hl1 hl0
                by_cases d1 : n < 0
                · by_cases d2 : m < 0
                  · have hL : line_words.len rest = (rest.size : Int) := by rw [hlen, if_pos d1, if_pos d2]
                    have f1 : decide (n < 0) = true := decide_eq_true d1
                    have f2 : decide (m < 0) = true := decide_eq_true d2
                    clear d1 d2
                    have HL := Lib.hid hL
                    clear hL hlen
                    go_wp2_with (first | (go_at_call 26; refine (hx _).mono ?_; rintro e w' ⟨rfl, rfl⟩) | ((with_reducible refine gate_callee (f := 27) rfl ?_); first | (refine goesL_ (some 26) rfl rfl Tryd.func27 (by kernel_rfl) rfl #[.string rest, .int .u8 32] rfl (by simp only [List.map_toArray, List.map_cons, List.map_nil]; rfl) ?_; refine (ha _).mono ?_; rintro e w' ⟨rfl, rfl⟩; refine ⟨_, rfl, ?_⟩) | (refine goesL_ (some 28) rfl rfl Tryd.func27 (by kernel_rfl) rfl #[.string rest, .int .u8 9] rfl (by simp only [List.map_toArray, List.map_cons, List.map_nil]; rfl) ?_; refine (hb _).mono ?_; rintro e w' ⟨rfl, rfl⟩; refine ⟨_, rfl, ?_⟩)) | ((with_reducible refine gate_builtin (b := .append) (xs := #[.tmp 45, .tmp 53]) rfl ?_); at_builtin; refine Kd.R_append k34 (w0 := w) w.heap.size ?x1 (.tmp 45) (.tmp 53) 30 34 (.agg #[(.string ⟨#[]⟩), (.int .i64 0)]) 24 ?x2 Tryd.underlying30 info34 rfl (by decide) (by decide) u5 out (⟨rest, wrap64 (a1 + ↑i)⟩ : S34) [.string (rest), .int .i64 (wrap64 (a1 + ↑i))] (fun _ => True) (fun _ => False) ?x3 ?x4 ?aP (fun _ hk => hk.elim) ?aF ?aO ?aB ?aS ?aL ?_; (case x1 => rfl); (case x2 => rfl); (case x3 => rfl); (case x4 => rfl); (case aP => exact k34_mkM _ _ _ (⟨rest, wrap64 (a1 + ↑i)⟩ : S34)); (case aB => exact HB.out); (case aF => exact (fun _ _ => trivial)); (case aO => exact HO.out); (case aS => exact below_size HB.out); (case aL => have := C6.out; omega); intro v1 w1 ho hb1 hg hat; have n0_ := Aside0.mk hb1; have n1_ := Aside0.mk ho; clear HB HO; have HB := n0_; have HO := n1_; clear n0_ n1_ ho hb1 hg hat))
                    go_roundg k1
                    case measure => have := HK.out; omega
                    case rel => exact ⟨_, i + ((rest.size : Int)).toNat, by go_num, ⟨by have := C3.out; have := HZ.out; omega⟩, ⟨by have h_ := H'.out; rw [HL.out, Int.toNat_natCast, ByteArray.extract_zero_size] at h_; exact h_⟩, ⟨by have := HK.out; omega⟩, HO, HB⟩
                  · have hL : line_words.len rest = m := by rw [hlen, if_pos d1, if_neg d2]
                    have f1 : decide (n < 0) = true := decide_eq_true d1
                    have f2 : decide (m < 0) = false := decide_eq_false d2
                    have f3 : 0 ≤ m := by omega
                    clear d1 d2
                    have HL := Lib.hid hL
                    clear hL hlen
                    go_wp2_with (first | (go_at_call 26; refine (hx _).mono ?_; rintro e w' ⟨rfl, rfl⟩) | ((with_reducible refine gate_callee (f := 27) rfl ?_); first | (refine goesL_ (some 26) rfl rfl Tryd.func27 (by kernel_rfl) rfl #[.string rest, .int .u8 32] rfl (by simp only [List.map_toArray, List.map_cons, List.map_nil]; rfl) ?_; refine (ha _).mono ?_; rintro e w' ⟨rfl, rfl⟩; refine ⟨_, rfl, ?_⟩) | (refine goesL_ (some 28) rfl rfl Tryd.func27 (by kernel_rfl) rfl #[.string rest, .int .u8 9] rfl (by simp only [List.map_toArray, List.map_cons, List.map_nil]; rfl) ?_; refine (hb _).mono ?_; rintro e w' ⟨rfl, rfl⟩; refine ⟨_, rfl, ?_⟩)) | ((with_reducible refine gate_builtin (b := .append) (xs := #[.tmp 45, .tmp 53]) rfl ?_); at_builtin; refine Kd.R_append k34 (w0 := w) w.heap.size ?x1 (.tmp 45) (.tmp 53) 30 34 (.agg #[(.string ⟨#[]⟩), (.int .i64 0)]) 24 ?x2 Tryd.underlying30 info34 rfl (by decide) (by decide) u5 out (⟨rest.extract 0 m.toNat, wrap64 (a1 + ↑i)⟩ : S34) [.string (rest.extract 0 m.toNat), .int .i64 (wrap64 (a1 + ↑i))] (fun _ => True) (fun _ => False) ?x3 ?x4 ?aP (fun _ hk => hk.elim) ?aF ?aO ?aB ?aS ?aL ?_; (case x1 => rfl); (case x2 => rfl); (case x3 => rfl); (case x4 => rfl); (case aP => exact k34_mkM _ _ _ (⟨rest.extract 0 m.toNat, wrap64 (a1 + ↑i)⟩ : S34)); (case aB => exact HB.out); (case aF => exact (fun _ _ => trivial)); (case aO => exact HO.out); (case aS => exact below_size HB.out); (case aL => have := C6.out; omega); intro v1 w1 ho hb1 hg hat; have n0_ := Aside0.mk hb1; have n1_ := Aside0.mk ho; clear HB HO; have HB := n0_; have HO := n1_; clear n0_ n1_ ho hb1 hg hat))
                    go_roundg k1
                    case measure => have := HK.out; omega
                    case rel => exact ⟨_, i + (m).toNat, by go_num, ⟨by have := C3.out; have := HZ.out; omega⟩, ⟨by have h_ := H'.out; rw [HL.out] at h_; exact h_⟩, ⟨by have := HK.out; omega⟩, HO, HB⟩
                · by_cases d2 : 0 ≤ m
                  · by_cases d3 : m < n
                    · have hL : line_words.len rest = m := by rw [hlen, if_neg d1, if_pos d2, if_pos d3]
                      have f1 : decide (n < 0) = false := decide_eq_false d1
                      have f2 : decide (0 ≤ m) = true := decide_eq_true d2
                      have f4 : decide (m < n) = true := decide_eq_true d3
                      have f5 : decide (m < 0) = false := decide_eq_false (by omega)
                      clear d1 d3
                      have HL := Lib.hid hL
                      clear hL hlen
                      go_wp2_with (first | (go_at_call 26; refine (hx _).mono ?_; rintro e w' ⟨rfl, rfl⟩) | ((with_reducible refine gate_callee (f := 27) rfl ?_); first | (refine goesL_ (some 26) rfl rfl Tryd.func27 (by kernel_rfl) rfl #[.string rest, .int .u8 32] rfl (by simp only [List.map_toArray, List.map_cons, List.map_nil]; rfl) ?_; refine (ha _).mono ?_; rintro e w' ⟨rfl, rfl⟩; refine ⟨_, rfl, ?_⟩) | (refine goesL_ (some 28) rfl rfl Tryd.func27 (by kernel_rfl) rfl #[.string rest, .int .u8 9] rfl (by simp only [List.map_toArray, List.map_cons, List.map_nil]; rfl) ?_; refine (hb _).mono ?_; rintro e w' ⟨rfl, rfl⟩; refine ⟨_, rfl, ?_⟩)) | ((with_reducible refine gate_builtin (b := .append) (xs := #[.tmp 45, .tmp 53]) rfl ?_); at_builtin; refine Kd.R_append k34 (w0 := w) w.heap.size ?x1 (.tmp 45) (.tmp 53) 30 34 (.agg #[(.string ⟨#[]⟩), (.int .i64 0)]) 24 ?x2 Tryd.underlying30 info34 rfl (by decide) (by decide) u5 out (⟨rest.extract 0 m.toNat, wrap64 (a1 + ↑i)⟩ : S34) [.string (rest.extract 0 m.toNat), .int .i64 (wrap64 (a1 + ↑i))] (fun _ => True) (fun _ => False) ?x3 ?x4 ?aP (fun _ hk => hk.elim) ?aF ?aO ?aB ?aS ?aL ?_; (case x1 => rfl); (case x2 => rfl); (case x3 => rfl); (case x4 => rfl); (case aP => exact k34_mkM _ _ _ (⟨rest.extract 0 m.toNat, wrap64 (a1 + ↑i)⟩ : S34)); (case aB => exact HB.out); (case aF => exact (fun _ _ => trivial)); (case aO => exact HO.out); (case aS => exact below_size HB.out); (case aL => have := C6.out; omega); intro v1 w1 ho hb1 hg hat; have n0_ := Aside0.mk hb1; have n1_ := Aside0.mk ho; clear HB HO; have HB := n0_; have HO := n1_; clear n0_ n1_ ho hb1 hg hat))
                      go_roundg k1
                      case measure => have := HK.out; omega
                      case rel => exact ⟨_, i + (m).toNat, by go_num, ⟨by have := C3.out; have := HZ.out; omega⟩, ⟨by have h_ := H'.out; rw [HL.out] at h_; exact h_⟩, ⟨by have := HK.out; omega⟩, HO, HB⟩
                    · have hL : line_words.len rest = n := by rw [hlen, if_neg d1, if_pos d2, if_neg d3]
                      have f1 : decide (n < 0) = false := decide_eq_false d1
                      have f2 : decide (0 ≤ m) = true := decide_eq_true d2
                      have f4 : decide (m < n) = false := decide_eq_false d3
                      have f3 : 0 ≤ n := by omega
                      clear d1 d3
                      have HL := Lib.hid hL
                      clear hL hlen
                      go_wp2_with (first | (go_at_call 26; refine (hx _).mono ?_; rintro e w' ⟨rfl, rfl⟩) | ((with_reducible refine gate_callee (f := 27) rfl ?_); first | (refine goesL_ (some 26) rfl rfl Tryd.func27 (by kernel_rfl) rfl #[.string rest, .int .u8 32] rfl (by simp only [List.map_toArray, List.map_cons, List.map_nil]; rfl) ?_; refine (ha _).mono ?_; rintro e w' ⟨rfl, rfl⟩; refine ⟨_, rfl, ?_⟩) | (refine goesL_ (some 28) rfl rfl Tryd.func27 (by kernel_rfl) rfl #[.string rest, .int .u8 9] rfl (by simp only [List.map_toArray, List.map_cons, List.map_nil]; rfl) ?_; refine (hb _).mono ?_; rintro e w' ⟨rfl, rfl⟩; refine ⟨_, rfl, ?_⟩)) | ((with_reducible refine gate_builtin (b := .append) (xs := #[.tmp 45, .tmp 53]) rfl ?_); at_builtin; refine Kd.R_append k34 (w0 := w) w.heap.size ?x1 (.tmp 45) (.tmp 53) 30 34 (.agg #[(.string ⟨#[]⟩), (.int .i64 0)]) 24 ?x2 Tryd.underlying30 info34 rfl (by decide) (by decide) u5 out (⟨rest.extract 0 n.toNat, wrap64 (a1 + ↑i)⟩ : S34) [.string (rest.extract 0 n.toNat), .int .i64 (wrap64 (a1 + ↑i))] (fun _ => True) (fun _ => False) ?x3 ?x4 ?aP (fun _ hk => hk.elim) ?aF ?aO ?aB ?aS ?aL ?_; (case x1 => rfl); (case x2 => rfl); (case x3 => rfl); (case x4 => rfl); (case aP => exact k34_mkM _ _ _ (⟨rest.extract 0 n.toNat, wrap64 (a1 + ↑i)⟩ : S34)); (case aB => exact HB.out); (case aF => exact (fun _ _ => trivial)); (case aO => exact HO.out); (case aS => exact below_size HB.out); (case aL => have := C6.out; omega); intro v1 w1 ho hb1 hg hat; have n0_ := Aside0.mk hb1; have n1_ := Aside0.mk ho; clear HB HO; have HB := n0_; have HO := n1_; clear n0_ n1_ ho hb1 hg hat))
                      go_roundg k1
                      case measure => have := HK.out; omega
                      case rel => exact ⟨_, i + (n).toNat, by go_num, ⟨by have := C3.out; have := HZ.out; omega⟩, ⟨by have h_ := H'.out; rw [HL.out] at h_; exact h_⟩, ⟨by have := HK.out; omega⟩, HO, HB⟩
                  · have hL : line_words.len rest = n := by rw [hlen, if_neg d1, if_neg d2]
                    have f1 : decide (n < 0) = false := decide_eq_false d1
                    have f2 : decide (0 ≤ m) = false := decide_eq_false d2
                    have f3 : 0 ≤ n := by omega
                    clear d1 d2
                    have HL := Lib.hid hL
                    clear hL hlen
                    go_wp2_with (first | (go_at_call 26; refine (hx _).mono ?_; rintro e w' ⟨rfl, rfl⟩) | ((with_reducible refine gate_callee (f := 27) rfl ?_); first | (refine goesL_ (some 26) rfl rfl Tryd.func27 (by kernel_rfl) rfl #[.string rest, .int .u8 32] rfl (by simp only [List.map_toArray, List.map_cons, List.map_nil]; rfl) ?_; refine (ha _).mono ?_; rintro e w' ⟨rfl, rfl⟩; refine ⟨_, rfl, ?_⟩) | (refine goesL_ (some 28) rfl rfl Tryd.func27 (by kernel_rfl) rfl #[.string rest, .int .u8 9] rfl (by simp only [List.map_toArray, List.map_cons, List.map_nil]; rfl) ?_; refine (hb _).mono ?_; rintro e w' ⟨rfl, rfl⟩; refine ⟨_, rfl, ?_⟩)) | ((with_reducible refine gate_builtin (b := .append) (xs := #[.tmp 45, .tmp 53]) rfl ?_); at_builtin; refine Kd.R_append k34 (w0 := w) w.heap.size ?x1 (.tmp 45) (.tmp 53) 30 34 (.agg #[(.string ⟨#[]⟩), (.int .i64 0)]) 24 ?x2 Tryd.underlying30 info34 rfl (by decide) (by decide) u5 out (⟨rest.extract 0 n.toNat, wrap64 (a1 + ↑i)⟩ : S34) [.string (rest.extract 0 n.toNat), .int .i64 (wrap64 (a1 + ↑i))] (fun _ => True) (fun _ => False) ?x3 ?x4 ?aP (fun _ hk => hk.elim) ?aF ?aO ?aB ?aS ?aL ?_; (case x1 => rfl); (case x2 => rfl); (case x3 => rfl); (case x4 => rfl); (case aP => exact k34_mkM _ _ _ (⟨rest.extract 0 n.toNat, wrap64 (a1 + ↑i)⟩ : S34)); (case aB => exact HB.out); (case aF => exact (fun _ _ => trivial)); (case aO => exact HO.out); (case aS => exact below_size HB.out); (case aL => have := C6.out; omega); intro v1 w1 ho hb1 hg hat; have n0_ := Aside0.mk hb1; have n1_ := Aside0.mk ho; clear HB HO; have HB := n0_; have HO := n1_; clear n0_ n1_ ho hb1 hg hat))
                    go_roundg k1
                    case measure => have := HK.out; omega
                    case rel => exact ⟨_, i + (n).toNat, by go_num, ⟨by have := C3.out; have := HZ.out; omega⟩, ⟨by have h_ := H'.out; rw [HL.out] at h_; exact h_⟩, ⟨by have := HK.out; omega⟩, HO, HB⟩
              · rw [if_neg c6] at H
                cases H
        · rw [if_neg c3] at H
          have c3b : decide ((i : Int) < (a0.size : Int)) = false := by simpa using c3
          have c3e : decide (i < a0.size) = false := by simpa using c3
          obtain rfl := Option.some.inj H
          clear c3 H
          go_wp2
          go_ret
          exact ⟨_, rfl, HO.out, HB.out⟩
  · rw [if_neg hs] at h
    cases h

end Go.Proofs.YtamgobcahgcejaaDoor.GC
