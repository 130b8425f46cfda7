/- The plain laws of patterns and of rows of texts: Match, matches, Over, Texts, SameTexts; no program in sight. -/
import Derived.Test.YtppndhbeglcioaaCutB
import Derived.Test.YtppndhbeglcioaaGAx8
import Derived.Test.YtppndhbeglcioaaGAx9
namespace Go.Proofs.Ytppndhbeglcioaa.Pl
open Go.RowKit Go.Proofs.YtppndhbeglcioaaUniq Go.Proofs.Ytppndhbeglcioaa.GA Go.Proofs.YtppndhbeglcioaaW.PrintWords Go.Proofs.YtppndhbeglcioaaW.PrintLast Go.Proofs.YtppndhbeglcioaaW.PrintMore
set_option linter.unusedVariables false
set_option linter.unusedSimpArgs false
/-! ### A pattern -/
def mt (p x : List UInt8) : Bool := if p.getLast? = some 42 then p.dropLast.isPrefixOf x else p == x
theorem prefix_iff : ∀ (a x : List UInt8), a.isPrefixOf x = (decide (a.length ≤ x.length) && (x.take a.length == a))
 | [], x => by simp
 | c :: a, [] => by simp
 | c :: a, d :: x => by
  have ih := prefix_iff a x
  rw [List.isPrefixOf_cons_cons, ih]
  simp only [List.length_cons, List.take_succ_cons, Nat.add_le_add_iff_right]
  by_cases h : c = d
  ·subst h; simp
  ·have h2 : ¬ d = c := fun e => h e.symm
   have e1 : (c == d) = false := by simpa using h
   have e2 : (d == c) = false := by simpa using h2
   rw [List.cons_beq_cons, e1, e2]; simp
theorem getLast_drop (l : List UInt8) (h : l ≠ []) : (l.drop (l.length - 1)) = [l.getLast h] := by
 have hp := List.length_pos_iff.2 h
 rw [List.drop_eq_getElem_cons (by omega), List.drop_eq_nil_of_le (by omega), List.getLast_eq_getElem]
theorem suffix_f (l : List UInt8) (hl : l.length < 4611686018427387904) : stringslite_HasSuffix.f (B l) (⟨#[42]⟩ : ByteArray) = some (decide (l.getLast? = some 42)) := by
 unfold stringslite_HasSuffix.f
 rw [B_size]
 have e1 : ((⟨#[42]⟩ : ByteArray).size : Int) = 1 := rfl
 rw [e1]
 cases l with
 | nil => simp
 | cons c r =>
  have hn : (((c :: r).length : Nat) : Int) ≥ 1 := by simp; omega
  rw [if_pos hn, wrap_small (by omega) (by omega), if_pos (by omega), if_pos (by omega)]
  congr 1
  have e2 : ((((c :: r).length : Nat) : Int) - 1).toNat = (c :: r).length - 1 := by omega
  rw [e2, B_cut]
  have e3 : (c :: r).drop ((c :: r).length - 1) = [(c :: r).getLast (by simp)] := getLast_drop _ (by simp)
  rw [e3, List.take_of_length_le (by simp), List.getLast?_eq_some_getLast (by simp), B_toList, show ({ data := #[42] } : ByteArray).toList = [42] from Lib.toList_data _]
  by_cases hx : (c :: r).getLast (by simp) = 42 <;> simp [hx]
theorem Match_f (p x : List UInt8) (hp : p.length < 4611686018427387904) (hx : x.length < 4611686018427387904) : glob_Match.f (B p) (B x) = some (mt p x) := by
 unfold glob_Match.f strings_CutSuffix.f stringslite_CutSuffix.f
 rw [suffix_f p hp]
 simp only [Option.bind_some, B_size]
 have e1 : ((⟨#[42]⟩ : ByteArray).size : Int) = 1 := rfl
 rw [e1]
 unfold mt
 by_cases h : p.getLast? = some 42
 ·have hne : p ≠ [] := by rintro rfl; simp at h
  have hpos : 0 < p.length := List.length_pos_iff.2 hne
  simp only [h, decide_true, if_true]
  rw [wrap_small (by omega) (by omega), if_pos (by omega), if_pos (by omega)]
  simp only [Option.bind_some, if_true]
  have e2 : (((p.length : Nat) : Int) - 1).toNat = p.length - 1 := by omega
  rw [e2, B_cut, List.drop_zero, Nat.sub_zero, ← List.dropLast_eq_take]
  unfold strings_HasPrefix.f stringslite_HasPrefix.f
  rw [B_size, B_size, prefix_iff]
  by_cases hle : p.dropLast.length ≤ x.length
  ·rw [if_pos (by omega), if_pos (by omega), if_pos (by omega)]
   simp only [Option.bind_some, Int.toNat_natCast]
   rw [B_cut, B_toList, B_toList, List.drop_zero, Nat.sub_zero, decide_eq_true hle, Bool.true_and]
  ·rw [if_neg (by omega), decide_eq_false hle]; rfl
 ·rw [if_neg h, decide_eq_false h]
  simp only [Option.bind_some, Bool.false_eq_true, if_false]
  rw [B_toList, B_toList]
theorem matches_f (P : List (List UInt8)) (x : List UInt8) (hP : ∀ p ∈ P, p.length < 4611686018427387904) (hx : x.length < 4611686018427387904) : glob_matches.f (P.map B) (B x) = some (P.any fun p => mt p x) := by
 unfold glob_matches.f
 induction P with
 | nil => rfl
 | cons p P ih =>
  rw [List.map_cons]
  unfold anyO
  rw [Match_f p x (hP p List.mem_cons_self) hx, Option.bind_some, ih (fun q hq => hP q (List.mem_cons_of_mem _ hq)), List.any_cons]
  cases mt p x <;> simp
/-! ### Two rows of texts -/
/-! ### The document's own row of texts, rising, each once -/
end Go.Proofs.Ytppndhbeglcioaa.Pl
