/- A region that draws its order, walked once and not order by order: each operation promises something of its value that what the others do can't undo. -/
import Derived.Test.YtppndhbeglcioaaCutB
import Derived.Laws.AppendOwn
namespace Go.Proofs.YtppndhbeglcioaaRg
open Go Go.Proofs.YtppndhbeglcioaaW.PrintLast
set_option linter.unusedVariables false
set_option linter.unusedSimpArgs false
section
variable {P : Program} {ops : Array Oper} {Q : Exit → Act → World → Prop} {md : Region.Mode} {S : World → Prop} {ds : List Nat}
def marks (l : Array Bool) (D : List Nat) : Array Bool := D.foldl (fun l i => l.setIfInBounds i true) l
theorem marks_snoc (l : Array Bool) (D : List Nat) (i : Nat) : marks l (D ++ [i]) = (marks l D).setIfInBounds i true := by unfold marks; rw [List.foldl_append]; rfl
theorem marks_size : ∀ (D : List Nat) (l : Array Bool), (marks l D).size = l.size
  | [], _ => rfl
  | i :: D, l => by unfold marks; rw [List.foldl_cons]; exact (marks_size D _).trans (Array.size_setIfInBounds ..)
theorem marks_not : ∀ (D : List Nat) (l : Array Bool) (m : Nat) (b : Bool), m ∉ D → (marks l D).getD m b = l.getD m b
  | [], _, _, _, _ => rfl
  | i :: D, l, m, b, h => by
    unfold marks; rw [List.foldl_cons]
    refine (marks_not D _ m b (fun hm => h (List.mem_cons_of_mem _ hm))).trans ?_
    exact getD_set_ne b (fun e => h (by rw [e]; exact List.mem_cons_self))
theorem marks_keep : ∀ (D : List Nat) (l : Array Bool) (m : Nat), l.getD m false = true → (marks l D).getD m false = true
  | [], _, _, h => h
  | i :: D, l, m, h => by unfold marks; rw [List.foldl_cons]; exact marks_keep D _ m (getD_set_true h)
theorem marks_mem : ∀ (D : List Nat) (l : Array Bool) (m : Nat), m ∈ D → m < l.size → (marks l D).getD m false = true
  | i :: D, l, m, h, hl => by
    unfold marks; rw [List.foldl_cons]
    rcases List.mem_cons.1 h with e | h
    · subst e
      refine marks_keep D _ m ?_
      simp [hl]
    · exact marks_mem D _ m h (by rw [Array.size_setIfInBounds]; exact hl)
theorem marks_perm {D E : List Nat} (h : D.Perm E) : ∀ l, marks l D = marks l E := by
  induction h with
  | nil => intro l; rfl
  | cons x _ ih => intro l; exact ih _
  | swap x y D =>
    intro l
    unfold marks
    rw [List.foldl_cons, List.foldl_cons, List.foldl_cons, List.foldl_cons]
    by_cases e : x = y
    · subst e; rfl
    · rw [Array.setIfInBounds_comm _ _ e]
  | trans _ _ h1 h2 => intro l; exact (h1 l).trans (h2 l)
theorem putAll_app : ∀ (x y : List (Tmp × Value)) (a : Act), putAll a (x ++ y) = putAll (putAll a x) y
  | [], _, _ => rfl
  | (n, v) :: x, y, a => putAll_app x y _
theorem putAll_defers : ∀ (x : List (Tmp × Value)) (a : Act), (putAll a x).defers = a.defers
  | [], _ => rfl
  | (n, v) :: x, a => (putAll_defers x _).trans rfl
theorem putAll_size : ∀ (x : List (Tmp × Value)) (a : Act), (putAll a x).tmps.size = a.tmps.size
  | [], _ => rfl
  | (n, v) :: x, a => (putAll_size x _).trans (Array.size_setIfInBounds ..)
theorem putAll_perm {x y : List (Tmp × Value)} (h : x.Perm y) : (x.map (·.1)).Nodup → ∀ a, putAll a x = putAll a y := by
  induction h with
  | nil => intro _ a; rfl
  | cons p _ ih => intro hn a; obtain ⟨n, v⟩ := p; exact ih (List.nodup_cons.1 hn).2 _
  | swap p q x =>
    intro hn a
    obtain ⟨n, v⟩ := p
    obtain ⟨m, u⟩ := q
    show putAll ((a.put (some m) u).put (some n) v) x = putAll ((a.put (some n) v).put (some m) u) x
    have hne : m ≠ n := by
      intro e; subst e
      simp at hn
    rw [Act.put_comm a (x := some m) (y := some n) u v (fun d hd => by injection hd with hd; subst hd; intro he; injection he with he; exact hne he.symm)]
  | trans hx _ h1 h2 => intro hn a; exact (h1 hn a).trans (h2 ((hx.map (·.1)).nodup_iff.1 hn) a)
theorem eval_not : ∀ (x : List (Tmp × Value)) (a : Act) (t : Tmp), t ∉ x.map (·.1) → (putAll a x).eval (.tmp t) = a.eval (.tmp t)
  | [], _, _, _ => rfl
  | (n, v) :: x, a, t, h => by
    refine (eval_not x _ t (fun hm => h (List.mem_cons_of_mem _ hm))).trans ?_
    exact Act.eval_put (fun d hd hx => by injection hd with hd; injection hx with hx; exact h (by rw [hx, ← hd]; exact List.mem_cons_self))
theorem eval_put_self (a b : Act) (t : Tmp) (v : Value) (h : t < a.tmps.size) (h' : t < b.tmps.size) : (a.put (some t) v).eval (.tmp t) = (b.put (some t) v).eval (.tmp t) := by
  simp [Act.eval, Act.put, h, h']
theorem eval_mem : ∀ (x : List (Tmp × Value)) (a : Act) (t : Tmp) (v : Value), (x.map (·.1)).Nodup → (t, v) ∈ x → t < a.tmps.size → (putAll a x).eval (.tmp t) = (a.put (some t) v).eval (.tmp t)
  | (n, u) :: x, a, t, v, hn, hm, ht => by
    rcases List.mem_cons.1 hm with e | hm
    · injection e with e1 e2; subst e1; subst e2
      exact eval_not x _ t (List.nodup_cons.1 hn).1
    · exact (eval_mem x _ t v (List.nodup_cons.1 hn).2 hm (by simpa [Act.put] using ht)).trans (eval_put_self _ _ _ _ (by simpa [Act.put] using ht) ht)
theorem put_inj {a : Act} {t : Tmp} {u v : Value} (h : t < a.tmps.size) (e : a.put (some t) u = a.put (some t) v) : u = v := by
  have := congrArg (fun x => x.tmps[t]?) e
  simpa [Act.put, h] using this

/-- One operation's promise, carried over to another state that differs in what it does not look at. -/
theorem wp_carry {o : Oper} {a1 a2 : Act} {w : World} {K : Act → World → Prop} {n : Tmp} (he : execOp a1.eval o = execOp a2.eval o) (hd : o.dst = some n) (hn : n < a2.tmps.size)
    (hQ : ∀ c w, Q (.panic c) a2 w → Q (.panic c) a1 w) (h : Oper.wp P o a2 w (fun a' w' => ∃ v, a' = a2.put (some n) v ∧ K (a1.put (some n) v) w') Q) : Oper.wp P o a1 w K Q := by
  unfold Oper.wp at h ⊢
  rw [he]
  generalize (execOp a2.eval o).run P w = r at h ⊢
  have use : ∀ {v : Value} {w' : World}, (∃ u, a2.put o.dst v = a2.put (some n) u ∧ K (a1.put (some n) u) w') → K (a1.put o.dst v) w' := by
    rintro v w' ⟨u, e, hk⟩
    rw [hd] at e ⊢
    rw [put_inj hn e]; exact hk
  cases r with
  | ok x w' =>
    cases x with
    | value v => exact use h
    | skip => exact use h
    | defer d =>
      obtain ⟨u, e, _⟩ := h
      have := congrArg (fun x => x.defers.length) e
      rw [hd] at this
      simp [Act.put] at this
    | enter f args =>
      refine Calls.mono h fun e w'' hh => ?_
      cases e with
      | returned v => exact use hh
      | panicked c => exact hQ c _ hh
      | outgrown => exact hh
    | row r args => exact Rows.mono h fun v w'' hh => use hh
    | _ => exact h
  | halt x w' =>
    cases x with
    | panic v => exact hQ _ _ h
    | _ => exact h
theorem wanted_same {o : Oper} {a1 a2 : Act} (h : ∀ t ∈ o.looksAt ops, a1.tmps[t]? = a2.tmps[t]?) : Region.wanted o (yielded ops a1.tmps) = Region.wanted o (yielded ops a2.tmps) := by
  unfold Region.wanted
  cases hg : o.guard with
  | none => rfl
  | some gw =>
    obtain ⟨g, want⟩ := gw
    have hy : yielded ops a1.tmps g = yielded ops a2.tmps g := by
      unfold yielded
      cases ht : (ops[g]?).bind (·.dst) with
      | none => rfl
      | some t =>
        have := h t (by simp [Oper.looksAt, hg, ht])
        simp [this]
    simp only [hy]

def nodupB : List Nat → Bool
  | [] => true
  | x :: l => !l.contains x && nodupB l
theorem nodupB_spec : ∀ {l : List Nat}, nodupB l = true → l.Nodup
  | [], _ => List.Pairwise.nil
  | x :: l, h => by
    simp only [nodupB, Bool.and_eq_true, Bool.not_eq_true', List.contains_eq_mem, decide_eq_false_iff_not] at h
    exact List.nodup_cons.2 ⟨h.1, nodupB_spec h.2⟩
def rgOp (md : Region.Mode) (ops : Array Oper) (ix : List Nat) (deps : Nat → List Nat) (N : Nat → Tmp) (i : Nat) : Bool :=
  match ops[i]? with
  | none => false
  | some o => (o.dst == some (N i)) && (o.looksAt ops).all (fun t => ix.all fun j => !(N j == t) || (deps i).contains j) && nodupB (deps i) && (deps i).all (fun j => ix.contains j && o.after.any fun e => Region.binds md e && e.on == j)
/-- All that the kernel looks at. -/
def rgOk (md : Region.Mode) (ops : Array Oper) (ds ix : List Nat) (deps : Nat → List Nat) (N : Nat → Tmp) (l l' : Array Bool) (fuel fuel' : Nat) : Bool :=
  (fuel == fuel' + ix.length) && (marks l ix == l') && nodupB ix && nodupB (ix.map N) && ix.all (rgOp md ops ix deps N) && (l.size == ops.size) && Region.closedB md ops l && Region.noSelect ops &&
  ix.all (fun i => !l.getD i true && !ds.contains i) &&
  (List.range ops.size).all (fun m => l.getD m true || ix.contains m || ix.all fun i => Region.reachB md ops i ops.size m) &&
  (List.range ops.size).all (fun m => match ops[m]? with | some o => o.after.all (fun e => decide (e.on < m)) | none => true)

/-- What comes first of what has not come up may come up. -/
theorem some_ready {l : Array Bool} (hs : l.size = ops.size) (ha : ∀ (m : Nat) (o : Oper), ops[m]? = some o → ∀ e ∈ o.after, e.on < m) : ∀ m, l.getD m true = false → ∃ i, i ∈ Region.ready md ops l := by
  intro m
  induction m using Nat.strongRecOn with
  | _ m ih =>
    intro hm
    have hlt : m < l.size := by
      rcases Nat.lt_or_ge m l.size with h | h
      · exact h
      · simp [Array.getElem?_eq_none h] at hm
    have hlt' : m < ops.size := by omega
    obtain ⟨o, ho⟩ : ∃ o, ops[m]? = some o := ⟨_, Array.getElem?_eq_getElem hlt'⟩
    by_cases hall : ∀ e ∈ o.after, Region.binds md e = true → l.getD e.on false = true
    · exact ⟨m, mem_ready.2 ⟨hm, o, ho, hall⟩⟩
    · simp only [Classical.not_forall] at hall
      obtain ⟨e, he, hb, hf⟩ := hall
      have hlt2 := ha m o ho e he
      refine ih e.on hlt2 ?_
      have hb2 : e.on < l.size := by omega
      simp [hb2] at hf ⊢
      exact hf

theorem quiet_ {Q : Exit → Act → World → Prop} (hQ : ∀ c (x : Act) (n : Tmp) v w, Q (.panic c) (x.put (some n) v) w ↔ Q (.panic c) x w) : ∀ (l : List (Tmp × Value)) (a : Act) c w, Q (.panic c) (putAll a l) w ↔ Q (.panic c) a w
  | [], _, _, _ => Iff.rfl
  | (n, v) :: l, a, c, w => (quiet_ hQ l _ c w).trans (hQ c a n v w)
theorem rg_ {fuel : Nat} {l : Array Bool} {a : Act} {w : World} (ix : List Nat) (deps : Nat → List Nat) (N : Nat → Tmp) (l' : Array Bool) (fuel' : Nat)
    (hok : rgOk md ops ds ix deps N l l' fuel fuel' = true) {n : Nat} (hn : a.tmps.size = n) (hNb : (ix.all fun i => decide (N i < n)) = true) (hQ : ∀ c (x : Act) (n : Tmp) v w, Q (.panic c) (x.put (some n) v) w ↔ Q (.panic c) x w)
    (Wd : World → Prop) (St : World → World → Prop) (Sp : Nat → (Nat → Value) → World → Prop) (h0 : Wd w) (hS : ∀ w, Wd w → S w)
    (hstab : ∀ i ∈ ix, ∀ vals vals' w1 w2, (∀ j, j = i ∨ j ∈ deps i → vals' j = vals j) → Wd w1 → Wd w2 → St w1 w2 → Sp i vals w1 → Sp i vals' w2)
    (hlt : ∀ i ∈ ix, ∀ vals w1, Wd w1 → Sp i vals w1 → ∀ k, (vals i).ownBlock = some k → k < w1.heap.size)
    (hstep : ∀ i ∈ ix, ∃ oi, ops[i]? = some oi ∧ ∀ (vals : Nat → Value) (w1 : World), Wd w1 → (∀ j ∈ deps i, Sp j vals w1) → ∀ K : Act → World → Prop,
      (∀ v w2, (Wd w2 ∧ St w1 w2 ∧ (∀ vals', (∀ j ∈ deps i, vals' j = vals j) → vals' i = v → Sp i vals' w2) ∧ (∀ k, v.ownBlock = some k → w1.heap.size ≤ k)) → K ((putAll a ((deps i).map fun j => (N j, vals j))).put (some (N i)) v) w2) →
      if Region.wanted oi (yielded ops (putAll a ((deps i).map fun j => (N j, vals j))).tmps) = true then Oper.wp P oi (putAll a ((deps i).map fun j => (N j, vals j))) w1 K Q else K ((putAll a ((deps i).map fun j => (N j, vals j))).put (some (N i)) undef) w1)
    (hfin : ∀ (vals : Nat → Value) (w' : World), Wd w' → (∀ i ∈ ix, Sp i vals w') → (∀ i ∈ ix, ∀ j ∈ ix, i ≠ j → ∀ k, (vals i).ownBlock = some k → (vals j).ownBlock ≠ some k) → wpAnyLast P md ops Q S ds fuel' l' (putAll a (ix.map fun i => (N i, vals i))) w') :
    wpAnyLast P md ops Q S ds fuel l a w := by
  have hN : ∀ i ∈ ix, N i < a.tmps.size := fun i hi => by rw [hn]; exact of_decide_eq_true (List.all_eq_true.1 hNb i hi)
  simp only [rgOk, Bool.and_eq_true, beq_iff_eq] at hok
  obtain ⟨⟨⟨⟨⟨⟨⟨⟨⟨⟨k1, k2⟩, k3⟩, k4⟩, k5⟩, k6⟩, k7⟩, k8⟩, k9⟩, k10⟩, k11⟩ := hok
  have nd := nodupB_spec k3
  have ndN := nodupB_spec k4
  have aft : ∀ (m : Nat) (o : Oper), ops[m]? = some o → ∀ e ∈ o.after, e.on < m := fun m o ho e he => by
    have h1 := List.all_eq_true.1 k11 m (List.mem_range.2 (Array.getElem?_eq_some_iff.1 ho).1)
    simp only [ho] at h1
    exact of_decide_eq_true (Array.all_eq_true_iff_forall_mem.1 h1 e he)
  have inj : ∀ i ∈ ix, ∀ j ∈ ix, N i = N j → i = j := by
    have : ∀ (L : List Nat), (L.map N).Nodup → ∀ i ∈ L, ∀ j ∈ L, N i = N j → i = j := by
      intro L
      induction L with
      | nil => intro _ i hi; cases hi
      | cons x L ih =>
        intro hn i hi j hj e
        obtain ⟨h1, h2⟩ := List.nodup_cons.1 hn
        rcases List.mem_cons.1 hi with e1 | hi2
        · rcases List.mem_cons.1 hj with e2 | hj2
          · rw [e1, e2]
          · exact absurd (List.mem_map.2 ⟨j, hj2, by rw [← e, e1]⟩) h1
        · rcases List.mem_cons.1 hj with e2 | hj2
          · exact absurd (List.mem_map.2 ⟨i, hi2, by rw [e, e2]⟩) h1
          · exact ih h2 i hi2 j hj2 e
    exact this ix ndN
  suffices main : ∀ (n : Nat) (D R : List Nat) (vals : Nat → Value) (w1 : World), (D ++ R).Perm ix → R.length = n → ListedClosed md ops (marks l D) → Wd w1 → (∀ i ∈ D, Sp i vals w1) → (∀ i ∈ D, ∀ j ∈ D, i ≠ j → ∀ k, (vals i).ownBlock = some k → (vals j).ownBlock ≠ some k) →
      wpAnyLast P md ops Q S ds (fuel' + n) (marks l D) (putAll a (D.map fun j => (N j, vals j))) w1 by
    have := main ix.length [] ix (fun _ => undef) w (List.Perm.refl _) rfl (Region.closedB_spec k7) h0 (fun i hi => by cases hi) (fun i hi => by cases hi)
    rw [k1]; exact this
  intro n
  induction n with
  | zero =>
    intro D R vals w1 hp hR hc hW hD hDj
    obtain rfl : R = [] := List.eq_nil_of_length_eq_zero hR
    rw [List.append_nil] at hp
    have hperm := hp.map fun j => (N j, vals j)
    have hkeys : ((D.map fun j => (N j, vals j)).map (·.1)).Nodup := by
      rw [List.map_map]
      exact ((hp.map N).nodup_iff).2 ndN
    rw [marks_perm hp l, k2, putAll_perm hperm hkeys]
    exact hfin vals w1 hW (fun i hi => hD i (hp.mem_iff.2 hi)) (fun i hi j hj => hDj i (hp.mem_iff.2 hi) j (hp.mem_iff.2 hj))
  | succ n ih =>
    intro D R vals w1 hp hR hc hW hD hDj
    have hsz : (marks l D).size = ops.size := by rw [marks_size, k6]
    have ndDR : (D ++ R).Nodup := hp.nodup_iff.2 nd
    have ndD : D.Nodup := (List.nodup_append.1 ndDR).1
    have disj : ∀ i ∈ D, i ∉ R := fun i hi hr => (List.nodup_append.1 ndDR).2.2 i hi i hr rfl
    have hDix : ∀ i ∈ D, i ∈ ix := fun i hi => hp.mem_iff.1 (List.mem_append_left _ hi)
    have hRix : ∀ i ∈ R, i ∈ ix := fun i hi => hp.mem_iff.1 (List.mem_append_right _ hi)
    have unl : ∀ i ∈ ix, l.getD i true = false ∧ i ∉ ds := fun i hi => by
      have := List.all_eq_true.1 k9 i hi
      simpa using this
    obtain ⟨r, hr⟩ : ∃ r, r ∈ R := by cases R with
      | nil => cases hR
      | cons r R => exact ⟨r, List.mem_cons_self⟩
    have hrun : (marks l D).getD r true = false := by rw [marks_not D l r true (fun h => disj r h hr)]; exact (unl r (hRix r hr)).1
    refine ⟨fun h => ?_, fun i hi => ?_⟩
    · obtain ⟨i, hi⟩ := some_ready (md := md) hsz aft r hrun
      rw [h] at hi; cases hi
    · obtain ⟨hiun, oi, hoi, hall⟩ := mem_ready.1 hi
      have hilt : i < ops.size := (Array.getElem?_eq_some_iff.1 hoi).1
      have hiD : i ∉ D := fun h => by
        have := marks_mem D l i h (by rw [k6]; exact hilt)
        have hb : i < (marks l D).size := by rw [hsz]; exact hilt
        simp [hb] at this hiun
        rw [this] at hiun; cases hiun
      have hiR : i ∈ R := by
        refine Classical.byContradiction fun hn => ?_
        have hni : i ∉ ix := fun h => by
          rcases List.mem_append.1 (hp.mem_iff.2 h) with h | h
          · exact hiD h
          · exact hn h
        have h1 := List.all_eq_true.1 k10 i (List.mem_range.2 hilt)
        rw [marks_not D l i true hiD] at hiun
        simp only [hiun, Bool.false_or, Bool.or_eq_true, List.contains_eq_mem, decide_eq_true_eq] at h1
        rcases h1 with h1 | h1
        · exact hni h1
        · exact Region.reach_not_ready hc (List.all_eq_true.1 h1 r (hRix r hr)) hrun hi
      have hix := hRix i hiR
      have hop := List.all_eq_true.1 k5 i hix
      unfold rgOp at hop
      rw [hoi] at hop
      simp only [Bool.and_eq_true, beq_iff_eq] at hop
      obtain ⟨⟨⟨o1, o2⟩, o3⟩, o4⟩ := hop
      have hdepD : ∀ j ∈ deps i, j ∈ D := fun j hj => by
        have h1 := List.all_eq_true.1 o4 j hj
        simp only [Bool.and_eq_true, List.contains_eq_mem, decide_eq_true_eq] at h1
        obtain ⟨hjx, h2⟩ := h1
        obtain ⟨e, he, h3⟩ := Array.any_eq_true'.1 h2
        simp only [Bool.and_eq_true, beq_iff_eq] at h3
        have h4 := hall e he h3.1
        rw [h3.2] at h4
        refine Classical.byContradiction fun hn => ?_
        have h5 : (marks l D).getD j true = false := by rw [marks_not D l j true hn]; exact (unl j hjx).1
        have hjl : j < (marks l D).size := by
          rcases Nat.lt_or_ge j (marks l D).size with h | h
          · exact h
          · simp [Array.getElem?_eq_none h] at h5
        simp [hjl] at h4 h5
        rw [h4] at h5; cases h5
      have keysD : ((D.map fun j => (N j, vals j)).map (·.1)).Nodup := by
        rw [List.map_map]
        exact List.pairwise_map.2 (ndD.imp_of_mem fun {x y} hx hy hne e => hne (inj x (hDix x hx) y (hDix y hy) e))
      have ndd := nodupB_spec o3
      have keysd : (((deps i).map fun j => (N j, vals j)).map (·.1)).Nodup := by
        rw [List.map_map]
        exact List.pairwise_map.2 (ndd.imp_of_mem fun {x y} hx hy hne e => hne (inj x (hDix x (hdepD x hx)) y (hDix y (hdepD y hy)) e))
      obtain ⟨a1, ha1⟩ : ∃ a1, a1 = putAll a (D.map fun j => (N j, vals j)) := ⟨_, rfl⟩
      obtain ⟨a2, ha2⟩ : ∃ a2, a2 = putAll a ((deps i).map fun j => (N j, vals j)) := ⟨_, rfl⟩
      have hs1 : a1.tmps.size = a.tmps.size := by rw [ha1, putAll_size]
      have hs2 : a2.tmps.size = a.tmps.size := by rw [ha2, putAll_size]
      have same : ∀ t ∈ oi.looksAt ops, a1.eval (.tmp t) = a2.eval (.tmp t) := fun t ht => by
        by_cases hj : ∃ j ∈ ix, N j = t
        · obtain ⟨j, hjx, rfl⟩ := hj
          have h1 := List.all_eq_true.1 (List.all_eq_true.1 o2 _ ht) j hjx
          simp only [BEq.rfl, Bool.not_true, Bool.false_or, List.contains_eq_mem, decide_eq_true_eq] at h1
          rw [ha1, ha2, eval_mem _ a (N j) (vals j) keysD (List.mem_map.2 ⟨j, hdepD j h1, rfl⟩) (hN j hjx), eval_mem _ a (N j) (vals j) keysd (List.mem_map.2 ⟨j, h1, rfl⟩) (hN j hjx)]
        · have hno : ∀ (L : List Nat), (∀ j ∈ L, j ∈ ix) → t ∉ (L.map fun j => (N j, vals j)).map (·.1) := fun L hL hm => by
            rw [List.map_map] at hm
            obtain ⟨j, hj1, hj2⟩ := List.mem_map.1 hm
            exact hj ⟨j, hL j hj1, hj2⟩
          rw [ha1, ha2, eval_not _ a t (hno D hDix), eval_not _ a t (hno (deps i) (fun j hj => hDix j (hdepD j hj)))]
      have get : ∀ t ∈ oi.looksAt ops, a1.tmps[t]? = a2.tmps[t]? := fun t ht => by
        have h1 := same t ht
        rcases Nat.lt_or_ge t a.tmps.size with hlt | hge
        · have b1 : t < a1.tmps.size := by rw [hs1]; exact hlt
          have b2 : t < a2.tmps.size := by rw [hs2]; exact hlt
          simp [Act.eval, b1, b2] at h1 ⊢
          exact h1
        · rw [Array.getElem?_eq_none (by rw [hs1]; exact hge), Array.getElem?_eq_none (by rw [hs2]; exact hge)]
      have hex : execOp a1.eval oi = execOp a2.eval oi := execOp_congr oi (fun cs b => Region.noSelect_spec k8 i oi cs b hoi) fun x hx => by
        cases x with
        | tmp t => exact same t (List.mem_append_left _ (List.mem_filterMap.2 ⟨.tmp t, by simpa using hx, rfl⟩))
        | _ => rfl
      have hwa : Region.wanted oi (yielded ops a1.tmps) = Region.wanted oi (yielded ops a2.tmps) := wanted_same get
      have next : ∀ v w2, Wd w2 → St w1 w2 → (∀ vals', (∀ j ∈ deps i, vals' j = vals j) → vals' i = v → Sp i vals' w2) → (∀ k, v.ownBlock = some k → w1.heap.size ≤ k) → wpAnyLast P md ops Q S ds (fuel' + n) ((marks l D).setIfInBounds i true) (a1.put (some (N i)) v) w2 := by
        intro v w2 hW2 hst hsp hfr
        have hp2 : ((D ++ [i]) ++ R.erase i).Perm ix := by
          refine List.Perm.trans ?_ hp
          rw [List.append_assoc]
          exact List.Perm.append_left D (List.perm_cons_erase hiR).symm
        have hcl : ListedClosed md ops (marks l (D ++ [i])) := by rw [marks_snoc]; exact hc.set hi
        have := ih (D ++ [i]) (R.erase i) (fun j => if j = i then v else vals j) w2 hp2 (by rw [List.length_erase_of_mem hiR, hR]; rfl) hcl hW2 (fun j hj => by
          rcases List.mem_append.1 hj with h | h
          · refine hstab j (hDix j h) vals _ w1 w2 (fun m hm => ?_) hW hW2 hst (hD j h)
            have hne : m ≠ i := fun e => by
              rcases hm with rfl | hm
              · exact hiD (e ▸ h)
              · have hjx := List.all_eq_true.1 k5 j (hDix j h)
                unfold rgOp at hjx
                cases hoj : ops[j]? with
                | none => rw [hoj] at hjx; cases hjx
                | some oj =>
                  rw [hoj] at hjx
                  simp only [Bool.and_eq_true, beq_iff_eq] at hjx
                  have h1 := List.all_eq_true.1 hjx.2 m hm
                  simp only [Bool.and_eq_true, List.contains_eq_mem, decide_eq_true_eq] at h1
                  obtain ⟨e1, he1, h3⟩ := Array.any_eq_true'.1 h1.2
                  simp only [Bool.and_eq_true, beq_iff_eq] at h3
                  have h4 := hc j oj hoj (marks_mem D l j h (by rw [k6]; exact (Array.getElem?_eq_some_iff.1 hoj).1)) e1 he1 h3.1
                  rw [h3.2, e] at h4
                  have hb : i < (marks l D).size := by rw [hsz]; exact hilt
                  simp [hb] at h4 hiun
                  rw [h4] at hiun; cases hiun
            simp only [if_neg hne]
          · rw [List.mem_singleton] at h; subst h
            refine hsp _ (fun m hm => ?_) (by simp)
            have hne : m ≠ j := fun e => hiD (e ▸ hdepD m hm)
            simp only [if_neg hne]) (fun x hx y hy hxy k hk => by
          have lt : ∀ z ∈ D, ∀ k, (vals z).ownBlock = some k → k < w1.heap.size := fun z hz => hlt z (hDix z hz) vals w1 hW (hD z hz)
          rcases List.mem_append.1 hx with h | h
          · have hne : x ≠ i := fun e => hiD (e ▸ h)
            simp only [if_neg hne] at hk
            rcases List.mem_append.1 hy with h' | h'
            · have hne' : y ≠ i := fun e => hiD (e ▸ h')
              simp only [if_neg hne']
              exact hDj x h y h' hxy k hk
            · rw [List.mem_singleton] at h'; subst h'
              simp only [if_true]
              intro e
              have := hfr k e; have := lt x h k hk; omega
          · rw [List.mem_singleton] at h; subst h
            simp only [if_true] at hk
            rcases List.mem_append.1 hy with h' | h'
            · have hne' : y ≠ x := fun e => hiD (e ▸ h')
              simp only [if_neg hne']
              intro e
              have := hfr k hk; have := lt y h' k e; omega
            · rw [List.mem_singleton] at h'; exact absurd h'.symm hxy)
        rw [marks_snoc, List.map_append, putAll_app] at this
        have e1 : (D.map fun j => (N j, if j = i then v else vals j)) = D.map fun j => (N j, vals j) := List.map_congr_left fun j hj => by
          have hne : j ≠ i := fun e => hiD (e ▸ hj)
          rw [if_neg hne]
        rw [e1, ← ha1] at this
        have e2 : putAll a1 ([i].map fun j => (N j, if j = i then v else vals j)) = a1.put (some (N i)) v := by
          show a1.put (some (N i)) (if i = i then v else vals i) = _
          rw [if_pos rfl]
        rw [e2] at this
        exact this
      have hQQ : ∀ c w, Q (.panic c) a2 w → Q (.panic c) a1 w := fun c w h => by
        rw [ha2] at h; rw [ha1]
        exact (quiet_ hQ _ a c w).2 ((quiet_ hQ _ a c w).1 h)
      obtain ⟨oi', hoi', hst'⟩ := hstep i hix
      have eoi : oi' = oi := Option.some.inj (hoi'.symm.trans hoi)
      subst eoi
      have st := hst' vals w1 hW (fun j hj => hD j (hdepD j hj)) (fun a' w' => ∃ v, a' = a2.put (some (N i)) v ∧ ((i ∉ ds → S w1 → S w') ∧ wpAnyLast P md ops Q S ds (fuel' + n) ((marks l D).setIfInBounds i true) (a1.put (some (N i)) v) w')) (fun v w2 hh => ⟨v, by rw [ha2], fun _ _ => hS w2 hh.1, next v w2 hh.1 hh.2.1 hh.2.2.1 hh.2.2.2⟩)
      rw [← ha2] at st
      rw [← ha1]
      unfold wpOp
      simp only [hoi]
      rw [hwa]
      split at st
      · rename_i hw
        rw [if_pos hw]
        exact .inl (wp_carry (K := fun a' w' => (i ∉ ds → S w1 → S w') ∧ wpAnyLast P md ops Q S ds (fuel' + n) ((marks l D).setIfInBounds i true) a' w') hex o1 (by rw [hs2]; exact hN i hix) hQQ st)
      · rename_i hw
        rw [if_neg hw]
        obtain ⟨v, e, hk⟩ := st
        have hv := put_inj (by rw [hs2]; exact hN i hix) e
        rw [o1, hv]
        exact hk
/-- The act written out, and what is promised of it. -/
theorem arm_ {oi : Oper} {N : Tmp} {a a' : Act} {w : World} {C : Value → World → Prop} {K : Act → World → Prop} (ha : a = a')
    (g : ∀ K' : Act → World → Prop, (∀ v w2, C v w2 → K' (a'.put (some N) v) w2) → if Region.wanted oi (yielded ops a'.tmps) = true then Oper.wp P oi a' w K' Q else K' (a'.put (some N) undef) w)
    (hK : ∀ v w2, C v w2 → K (a.put (some N) v) w2) : if Region.wanted oi (yielded ops a.tmps) = true then Oper.wp P oi a w K Q else K (a.put (some N) undef) w := by
  subst ha
  exact g K hK
/-- A call of a variable that holds a function which captures nothing, in a region that draws. -/
theorem goesT_ {oi : Oper} {N : Option Tmp} {a : Act} {w : World} {K : Act → World → Prop} {f : FuncId} {fn : Func} {aq : Array Operand} {ts : Array TypeId} {c : Tmp} (hf : P.funcs[f]? = some fn) (hname : (fn.name == "runtime.NumGoroutine") = false) (hb : fn.body.isSome = true) (args : Array Value)
    (hw : Region.wanted oi (yielded ops a.tmps) = true) (hN : oi.dst = N) (hop : oi.op = .call { callee := .value (.tmp c), args := aq, argTypes := ts }) (hcal : a.eval (.tmp c) = .func (.func f) #[] #[]) (hargs : aq.map a.eval = args)
    (h : Calls P f args w fun e w' => ∃ v, e = .returned v ∧ K (a.put N v) w') : if Region.wanted oi (yielded ops a.tmps) = true then Oper.wp P oi a w K Q else K (a.put N undef) w := by
  refine call_ f args hw hN ?_ h
  have he := enters_ hf hname hb args w
  unfold execOp
  simp [hop, resolve, Deferred.ofValue, invoke, hcal, hargs, he]
/-- .. in a plain region. -/
theorem goesF_ {rest : List Oper} {oi : Oper} {a : Act} {w : World} (N : Option Tmp) (hd : oi.dst = N) (hg : oi.guard = none) {f : FuncId} {fn : Func} {aq : Array Operand} {ts : Array TypeId} {c : Tmp} (hf : P.funcs[f]? = some fn) (hname : (fn.name == "runtime.NumGoroutine") = false) (hb : fn.body.isSome = true) (args : Array Value)
    (hop : oi.op = .call { callee := .value (.tmp c), args := aq, argTypes := ts }) (hcal : a.eval (.tmp c) = .func (.func f) #[] #[]) (hargs : aq.map a.eval = args)
    (h : Calls P f args w fun e w' => ∃ v, e = .returned v ∧ wpList P ops Q rest (a.put N v) w') : wpList P ops Q (oi :: rest) a w := by
  refine wpList_plain hg fun K hK => ?_
  have he := enters_ hf hname hb args w
  have hrun : (execOp a.eval oi).run P w = .ok (.enter f args) w := by
    unfold execOp
    simp [hop, resolve, Deferred.ofValue, invoke, hcal, hargs, he]
  unfold Oper.wp
  rw [hrun, Oper.upon_enter]
  refine h.mono fun e w'' hh => ?_
  obtain ⟨v, rfl, hk⟩ := hh
  subst hd
  exact hK _ _ hk
theorem ne_new {v : Value} {n k : Nat} (h : ∀ k, v.ownBlock = some k → n ≤ k) (hk : k < n) : some k ≠ v.ownBlock := fun e => by have := h k e.symm; omega
theorem ne_old {v : Value} {n k : Nat} (h : ∀ k, v.ownBlock = some k → k < n) (hk : n ≤ k) : some k ≠ v.ownBlock := fun e => by have := h k e.symm; omega
theorem ne_told {v u : Value} {k : Nat} (h : ∀ k, u.ownBlock = some k → v.ownBlock ≠ some k) (hk : u.ownBlock = some k) : some k ≠ v.ownBlock := fun e => h k hk e.symm
end
end Go.Proofs.YtppndhbeglcioaaRg
