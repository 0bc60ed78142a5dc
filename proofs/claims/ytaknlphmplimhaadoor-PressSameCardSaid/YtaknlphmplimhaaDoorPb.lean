/- Compressed tries over paths, in plain Lean: what an entry's adding and removing does, that the entries alone fix the trie, what is found, how many nodes there are; no program in sight. -/
import Derived.Test.YtaknlphmplimhaaDoorMa
set_option linter.unusedVariables false
set_option linter.unusedSimpArgs false
namespace Go.Proofs.YtaknlphmplimhaaDoor

/-- The longest common beginning of two paths. -/
def lcp : List Bool → List Bool → List Bool
  | a :: p, b :: q => if a = b then a :: lcp p q else []
  | _, _ => []
theorem lcp_left : ∀ p q, lcp p q <+: p
  | [], _ => by simp [lcp]
  | _ :: _, [] => by simp [lcp]
  | a :: p, b :: q => by
    unfold lcp
    split
    · exact List.cons_prefix_cons.2 ⟨rfl, lcp_left p q⟩
    · exact List.nil_prefix
theorem lcp_right : ∀ p q, lcp p q <+: q
  | [], _ => by simp [lcp]
  | _ :: _, [] => by simp [lcp]
  | a :: p, b :: q => by
    unfold lcp
    split
    · next h => subst h; exact List.cons_prefix_cons.2 ⟨rfl, lcp_right p q⟩
    · exact List.nil_prefix
theorem lcp_great : ∀ {q p x : List Bool}, q <+: p → q <+: x → q <+: lcp p x
  | [], _, _, _, _ => List.nil_prefix
  | c :: q, [], _, h, _ => by simp at h
  | c :: q, a :: p, [], _, h => by simp at h
  | c :: q, a :: p, b :: x, h, k => by
    obtain ⟨e, h1⟩ := List.cons_prefix_cons.1 h
    obtain ⟨e2, k1⟩ := List.cons_prefix_cons.1 k
    subst e e2
    unfold lcp
    rw [if_pos rfl]
    exact List.cons_prefix_cons.2 ⟨rfl, lcp_great h1 k1⟩
theorem lcp_eq_left {p x : List Bool} : lcp p x = p ↔ p <+: x :=
  ⟨fun h => h ▸ lcp_right p x, fun h => (lcp_left p x).eq_of_length (Nat.le_antisymm (lcp_left p x).length_le (lcp_great (List.prefix_refl p) h).length_le)⟩
theorem lcp_eq_right {p x : List Bool} : lcp p x = x ↔ x <+: p :=
  ⟨fun h => h ▸ lcp_left p x, fun h => (lcp_right p x).eq_of_length (Nat.le_antisymm (lcp_right p x).length_le (lcp_great h (List.prefix_refl x)).length_le)⟩
/-- The bit of a path that stands behind another one. -/
def sideOf (p x : List Bool) : Bool := x.getD p.length false
theorem sideOf_app (p s : List Bool) (b : Bool) : sideOf p (p ++ b :: s) = b := by
  unfold sideOf
  rw [List.getD_eq_getElem?_getD, List.getElem?_append_right (Nat.le_refl _)]
  simp
theorem strict_split {p x : List Bool} (h : p <+: x) (hne : p ≠ x) : ∃ s, x = p ++ sideOf p x :: s := by
  obtain ⟨t, rfl⟩ := h
  cases t with
  | nil => simp at hne
  | cons b s => exact ⟨s, by rw [sideOf_app]⟩
theorem snoc_prefix {p x : List Bool} {b : Bool} : p ++ [b] <+: x ↔ ∃ s, x = p ++ b :: s :=
  ⟨fun ⟨s, h⟩ => ⟨s, by rw [← h]; simp⟩, fun ⟨s, h⟩ => ⟨s, by rw [h]; simp⟩⟩
/-- Behind their common beginning two paths part. -/
theorem lcp_part : ∀ {p x : List Bool}, lcp p x ≠ p → lcp p x ≠ x → sideOf (lcp p x) p = !sideOf (lcp p x) x
  | [], _, h, _ => by simp [lcp] at h
  | _ :: _, [], _, h => by simp [lcp] at h
  | a :: p, b :: x, h, k => by
    by_cases e : a = b
    · subst e
      have e1 : lcp (a :: p) (a :: x) = a :: lcp p x := by simp [lcp]
      rw [e1] at h k ⊢
      have := lcp_part (p := p) (x := x) (fun e => h (by rw [e])) (fun e => k (by rw [e]))
      simpa [sideOf] using this
    · have e1 : lcp (a :: p) (b :: x) = [] := by simp [lcp, e]
      rw [e1]
      simp only [sideOf, List.length_nil, List.getD_cons_zero]
      cases a <;> cases b <;> simp_all

/-- A compressed trie. -/
inductive BT where
  | nil : BT
  | node (p : List Bool) (l r : BT) (o : Option Int) : BT
namespace BT
def WF : List Bool → BT → Prop
  | _, nil => True
  | q, node p l r o => q <+: p ∧ (o = none → l ≠ nil ∧ r ≠ nil) ∧ WF (p ++ [false]) l ∧ WF (p ++ [true]) r
/-- The value of an entry. -/
def get : BT → List Bool → Option Int
  | nil, _ => none
  | node p l r o, x => if x = p then o else if p <+: x then (if sideOf p x then get r x else get l x) else none
theorem get_self (p : List Bool) (l r : BT) (o : Option Int) : get (node p l r o) p = o := by simp [get]
theorem get_side (p s : List Bool) (b : Bool) (l r : BT) (o : Option Int) : get (node p l r o) (p ++ b :: s) = get (if b then r else l) (p ++ b :: s) := by
  rw [get, if_neg (by simp), if_pos (List.prefix_append _ _), sideOf_app]
  cases b <;> rfl
theorem get_none {p x : List Bool} {l r : BT} {o : Option Int} (h : ¬ p <+: x) : get (node p l r o) x = none := by
  rw [get, if_neg (show ¬ x = p from fun e => h (by rw [e]; exact List.prefix_refl _)), if_neg h]
theorem get_pre : ∀ {t : BT} {q x : List Bool} {v : Int}, WF q t → get t x = some v → q <+: x
  | nil, _, _, _, _, h => by simp [get] at h
  | node p l r o, q, x, v, hw, h => by
    by_cases hp : p <+: x
    · exact hw.1.trans hp
    · rw [get_none hp] at h; cases h
theorem get_off {t : BT} {q x : List Bool} (hw : WF q t) (h : ¬ q <+: x) : get t x = none := by
  cases hg : get t x with
  | none => rfl
  | some v => exact absurd (get_pre hw hg) h
theorem weaken {t : BT} {q q' : List Bool} (h : q' <+: q) (hw : WF q t) : WF q' t := by
  cases t with
  | nil => trivial
  | node p l r o => exact ⟨h.trans hw.1, hw.2⟩
theorem nonempty : ∀ {t : BT} {q : List Bool}, WF q t → t ≠ nil → ∃ x v, get t x = some v
  | nil, _, _, h => absurd rfl h
  | node p l r (some v), _, _, _ => ⟨p, v, get_self ..⟩
  | node p l r none, _, hw, _ => by
    obtain ⟨x, v, hx⟩ := nonempty hw.2.2.1 (hw.2.1 rfl).1
    obtain ⟨s, rfl⟩ := snoc_prefix.1 (get_pre hw.2.2.1 hx)
    exact ⟨_, v, (get_side p s false l r none).trans hx⟩
theorem both_sides : ∀ {p q s1 s2 : List Bool}, q <+: p ++ false :: s1 → q <+: p ++ true :: s2 → q <+: p
  | _, [], _, _, _, _ => List.nil_prefix
  | [], c :: q, _, _, h, k => by
    have h1 := (List.cons_prefix_cons.1 h).1
    have h2 := (List.cons_prefix_cons.1 k).1
    rw [h1] at h2; cases h2
  | a :: p, c :: q, _, _, h, k => by
    have h1 := List.cons_prefix_cons.1 h
    have k1 := List.cons_prefix_cons.1 k
    exact List.cons_prefix_cons.2 ⟨h1.1, both_sides h1.2 k1.2⟩
/-- A node's path is the greatest that all its entries have. -/
theorem span {p q q' : List Bool} {l r : BT} {o : Option Int} (hw : WF q (node p l r o)) (h : ∀ x v, get (node p l r o) x = some v → q' <+: x) : q' <+: p := by
  cases o with
  | some v => exact h p v (get_self ..)
  | none =>
    obtain ⟨x, v, hx⟩ := nonempty hw.2.2.1 (hw.2.1 rfl).1
    obtain ⟨s, rfl⟩ := snoc_prefix.1 (get_pre hw.2.2.1 hx)
    obtain ⟨y, u, hy⟩ := nonempty hw.2.2.2 (hw.2.1 rfl).2
    obtain ⟨s2, rfl⟩ := snoc_prefix.1 (get_pre hw.2.2.2 hy)
    exact both_sides (h _ v ((get_side p s false l r none).trans hx)) (h _ u ((get_side p s2 true l r none).trans hy))
theorem keys_pre {p x : List Bool} {l r : BT} {o : Option Int} {v : Int} (h : get (node p l r o) x = some v) : p <+: x := by
  by_cases hp : p <+: x
  · exact hp
  · rw [get_none hp] at h; cases h
/-- The entries alone fix the trie. -/
theorem canon : ∀ {t u : BT} {q q' : List Bool}, WF q t → WF q' u → (∀ x, get t x = get u x) → t = u
  | nil, nil, _, _, _, _, _ => rfl
  | nil, node p l r o, _, _, _, hu, h => by
    obtain ⟨x, v, hx⟩ := nonempty hu (by simp)
    rw [← h] at hx; simp [get] at hx
  | node p l r o, nil, _, _, ht, _, h => by
    obtain ⟨x, v, hx⟩ := nonempty ht (by simp)
    rw [h] at hx; simp [get] at hx
  | node p l r o, node p' l' r' o', q, q', ht, hu, h => by
    have h1 : p' <+: p := span ht fun x v hx => keys_pre (by rw [← h]; exact hx)
    have h2 : p <+: p' := span hu fun x v hx => keys_pre (by rw [h]; exact hx)
    obtain rfl : p = p' := h2.eq_of_length (Nat.le_antisymm h2.length_le h1.length_le)
    have ho := h p
    rw [get_self, get_self] at ho
    subst ho
    have hl : l = l' := canon ht.2.2.1 hu.2.2.1 fun x => by
      by_cases hx : p ++ [false] <+: x
      · obtain ⟨s, rfl⟩ := snoc_prefix.1 hx
        have := h (p ++ false :: s)
        rw [get_side, get_side] at this
        exact this
      · rw [get_off ht.2.2.1 hx, get_off hu.2.2.1 hx]
    have hr : r = r' := canon ht.2.2.2 hu.2.2.2 fun x => by
      by_cases hx : p ++ [true] <+: x
      · obtain ⟨s, rfl⟩ := snoc_prefix.1 hx
        have := h (p ++ true :: s)
        rw [get_side, get_side] at this
        exact this
      · rw [get_off ht.2.2.2 hx, get_off hu.2.2.2 hx]
    rw [hl, hr]

/-- What adding an entry makes. -/
def leaf (x : List Bool) (v : Int) : BT := node x nil nil (some v)
def wth : BT → List Bool → Int → BT
  | nil, x, v => leaf x v
  | node p l r o, x, v =>
    if lcp p x = p then
      if lcp p x = x then node p l r (some v)
      else if sideOf p x then node p l (wth r x v) o else node p (wth l x v) r o
    else if lcp p x = x then
      if sideOf x p then node x nil (node p l r o) (some v) else node x (node p l r o) nil (some v)
    else if sideOf (lcp p x) p then node (lcp p x) (leaf x v) (node p l r o) none else node (lcp p x) (node p l r o) (leaf x v) none
theorem leaf_wf {q x : List Bool} {v : Int} (h : q <+: x) : WF q (leaf x v) := ⟨h, by simp, trivial, trivial⟩
theorem leaf_get (x : List Bool) (v : Int) (y : List Bool) : get (leaf x v) y = if y = x then some v else none := by
  unfold leaf
  rw [get]
  split
  · rfl
  · split
    · split <;> rfl
    · rfl
theorem wth_ne (t : BT) (x : List Bool) (v : Int) : wth t x v ≠ nil := by
  cases t with
  | nil => simp [wth, leaf]
  | node p l r o =>
    unfold wth
    repeat' split
    all_goals simp
theorem wth_spec : ∀ {t : BT} {q x : List Bool} {v : Int}, WF q t → q <+: x → WF q (wth t x v) ∧ ∀ y, get (wth t x v) y = if y = x then some v else get t y
  | nil, q, x, v, _, hx => ⟨leaf_wf hx, fun y => by rw [wth, leaf_get]; rfl⟩
  | node p l r o, q, x, v, hw, hx => by
    unfold wth
    by_cases h1 : lcp p x = p
    · rw [if_pos h1]
      have hpx := lcp_eq_left.1 h1
      by_cases h2 : lcp p x = x
      · rw [if_pos h2]
        obtain rfl : p = x := h1.symm.trans h2
        refine ⟨⟨hw.1, by simp, hw.2.2⟩, fun y => ?_⟩
        rw [get, get]
        by_cases e : y = p
        · rw [if_pos e, if_pos e]
        · rw [if_neg e, if_neg e, if_neg e]
      · rw [if_neg h2]
        have hne : p ≠ x := fun e => h2 (by rw [h1]; exact e)
        obtain ⟨s, hs⟩ := strict_split hpx hne
        cases hb : sideOf p x with
        | false =>
          rw [hb] at hs
          obtain ⟨i1, i2⟩ := wth_spec (t := l) (q := p ++ [false]) (x := x) (v := v) hw.2.2.1 (snoc_prefix.2 ⟨s, hs⟩)
          simp only [Bool.false_eq_true, if_false]
          refine ⟨⟨hw.1, fun ho => ⟨wth_ne _ _ _, (hw.2.1 ho).2⟩, i1, hw.2.2.2⟩, fun y => ?_⟩
          rw [get, get]
          by_cases e : y = p
          · rw [if_pos e, if_pos e, if_neg (fun k => hne (e.symm.trans k))]
          · rw [if_neg e, if_neg e]
            by_cases e2 : p <+: y
            · rw [if_pos e2, if_pos e2]
              cases hc : sideOf p y with
              | false => simp only [Bool.false_eq_true, if_false]; exact i2 y
              | true => simp only [if_true]; rw [if_neg (fun k => by rw [k, hb] at hc; cases hc)]
            · rw [if_neg e2, if_neg e2, if_neg (show ¬ y = x from fun k => e2 (by rw [k]; exact hpx))]
        | true =>
          rw [hb] at hs
          obtain ⟨i1, i2⟩ := wth_spec (t := r) (q := p ++ [true]) (x := x) (v := v) hw.2.2.2 (snoc_prefix.2 ⟨s, hs⟩)
          simp only [if_true]
          refine ⟨⟨hw.1, fun ho => ⟨(hw.2.1 ho).1, wth_ne _ _ _⟩, hw.2.2.1, i1⟩, fun y => ?_⟩
          rw [get, get]
          by_cases e : y = p
          · rw [if_pos e, if_pos e, if_neg (fun k => hne (e.symm.trans k))]
          · rw [if_neg e, if_neg e]
            by_cases e2 : p <+: y
            · rw [if_pos e2, if_pos e2]
              cases hc : sideOf p y with
              | false => simp only [Bool.false_eq_true, if_false]; rw [if_neg (fun k => by rw [k, hb] at hc; cases hc)]
              | true => simp only [if_true]; exact i2 y
            · rw [if_neg e2, if_neg e2, if_neg (show ¬ y = x from fun k => e2 (by rw [k]; exact hpx))]
    · rw [if_neg h1]
      have hqc : q <+: lcp p x := lcp_great hw.1 hx
      by_cases h2 : lcp p x = x
      · rw [if_pos h2]
        have hxp := lcp_eq_right.1 h2
        have hne : x ≠ p := fun e => h1 (by rw [h2]; exact e)
        obtain ⟨s, hs⟩ := strict_split hxp hne
        have far : ∀ y, ¬ x <+: y → get (node p l r o) y = none := fun y hy => get_none (fun k => hy (hxp.trans k))
        have self : get (node p l r o) x = none := get_none (fun k => hne (hxp.eq_of_length (Nat.le_antisymm hxp.length_le k.length_le)))
        cases hb : sideOf x p with
        | false =>
          rw [hb] at hs
          simp only [Bool.false_eq_true, if_false]
          refine ⟨⟨hx, by simp, ⟨snoc_prefix.2 ⟨s, hs⟩, hw.2⟩, trivial⟩, fun y => ?_⟩
          rw [get.eq_def (node x (node p l r o) nil (some v)) y]
          simp only
          by_cases e : y = x
          · rw [if_pos e, if_pos e]
          · rw [if_neg e, if_neg e]
            by_cases e2 : x <+: y
            · rw [if_pos e2]
              obtain ⟨s2, hs2⟩ := strict_split e2 (Ne.symm e)
              cases hc : sideOf x y with
              | false => rfl
              | true =>
                rw [hc] at hs2
                simp only [if_true]
                rw [get_none (fun k => ?_)]; rfl
                rw [hs, hs2] at k
                have := List.prefix_append_right_inj x |>.1 k
                cases (List.cons_prefix_cons.1 this).1
            · rw [if_neg e2, far y e2]
        | true =>
          rw [hb] at hs
          simp only [if_true]
          refine ⟨⟨hx, by simp, trivial, ⟨snoc_prefix.2 ⟨s, hs⟩, hw.2⟩⟩, fun y => ?_⟩
          rw [get.eq_def (node x nil (node p l r o) (some v)) y]
          simp only
          by_cases e : y = x
          · rw [if_pos e, if_pos e]
          · rw [if_neg e, if_neg e]
            by_cases e2 : x <+: y
            · rw [if_pos e2]
              obtain ⟨s2, hs2⟩ := strict_split e2 (Ne.symm e)
              cases hc : sideOf x y with
              | true => rfl
              | false =>
                rw [hc] at hs2
                simp only [Bool.false_eq_true, if_false]
                rw [get_none (fun k => ?_)]; rfl
                rw [hs, hs2] at k
                have := List.prefix_append_right_inj x |>.1 k
                cases (List.cons_prefix_cons.1 this).1
            · rw [if_neg e2, far y e2]
      · rw [if_neg h2]
        have hcp := lcp_left p x
        have hcx := lcp_right p x
        have hpart := lcp_part h1 h2
        obtain ⟨s, hs⟩ := strict_split hcp h1
        obtain ⟨s2, hs2⟩ := strict_split hcx h2
        generalize lcp p x = c at *
        have far : ∀ y, ¬ c <+: y → get (node p l r o) y = none := fun y hy => get_none (fun k => hy (hcp.trans k))
        have self : get (node p l r o) c = none := get_none (fun k => h1 (hcp.eq_of_length (Nat.le_antisymm hcp.length_le k.length_le)))
        have off : ∀ y s3, y = c ++ sideOf c x :: s3 → get (node p l r o) y = none := fun y s3 hy => get_none (fun k => by
          rw [hs, hy, hpart] at k
          have := List.prefix_append_right_inj c |>.1 k
          have := (List.cons_prefix_cons.1 this).1
          cases hh : sideOf c x <;> rw [hh] at this <;> cases this)
        have offx : ∀ y s3, y = c ++ sideOf c p :: s3 → y ≠ x := fun y s3 hy k => by
          rw [k, hs2, hpart] at hy
          have := List.append_cancel_left hy
          injection this with e
          cases hh : sideOf c x <;> rw [hh] at e <;> cases e
        have hxc : x ≠ c := fun e => h2 e.symm
        cases hb : sideOf c p with
        | false =>
          have hb2 : sideOf c x = true := by rw [hb] at hpart; cases hh : sideOf c x; rw [hh] at hpart; cases hpart; rfl
          rw [hb] at hs
          rw [hb2] at hs2
          simp only [Bool.false_eq_true, if_false]
          refine ⟨⟨hqc, by simp [leaf], ⟨snoc_prefix.2 ⟨s, hs⟩, hw.2⟩, leaf_wf (snoc_prefix.2 ⟨s2, hs2⟩)⟩, fun y => ?_⟩
          rw [get.eq_def (node c (node p l r o) (leaf x v) none) y]
          simp only
          by_cases e : y = c
          · rw [if_pos e, if_neg (fun k => hxc (k.symm.trans e)), e, self]
          · rw [if_neg e]
            by_cases e2 : c <+: y
            · rw [if_pos e2]
              obtain ⟨s3, hs3⟩ := strict_split e2 (Ne.symm e)
              cases hc : sideOf c y with
              | false =>
                rw [hc] at hs3
                simp only [Bool.false_eq_true, if_false]
                rw [if_neg (offx y s3 (by rw [hb]; exact hs3))]
              | true =>
                rw [hc] at hs3
                simp only [if_true]
                rw [leaf_get, off y s3 (by rw [hb2]; exact hs3)]
            · rw [if_neg e2, far y e2, if_neg (show ¬ y = x from fun k => e2 (by rw [k]; exact hcx))]
        | true =>
          have hb2 : sideOf c x = false := by rw [hb] at hpart; cases hh : sideOf c x; rfl; rw [hh] at hpart; cases hpart
          rw [hb] at hs
          rw [hb2] at hs2
          simp only [if_true]
          refine ⟨⟨hqc, by simp [leaf], leaf_wf (snoc_prefix.2 ⟨s2, hs2⟩), ⟨snoc_prefix.2 ⟨s, hs⟩, hw.2⟩⟩, fun y => ?_⟩
          rw [get.eq_def (node c (leaf x v) (node p l r o) none) y]
          simp only
          by_cases e : y = c
          · rw [if_pos e, if_neg (fun k => hxc (k.symm.trans e)), e, self]
          · rw [if_neg e]
            by_cases e2 : c <+: y
            · rw [if_pos e2]
              obtain ⟨s3, hs3⟩ := strict_split e2 (Ne.symm e)
              cases hc : sideOf c y with
              | true =>
                rw [hc] at hs3
                simp only [if_true]
                rw [if_neg (offx y s3 (by rw [hb]; exact hs3))]
              | false =>
                rw [hc] at hs3
                simp only [Bool.false_eq_true, if_false]
                rw [leaf_get, off y s3 (by rw [hb2]; exact hs3)]
            · rw [if_neg e2, far y e2, if_neg (show ¬ y = x from fun k => e2 (by rw [k]; exact hcx))]

/-- What removing an entry makes. -/
def fix (p : List Bool) (l r : BT) (o : Option Int) : BT :=
  match o, l, r with
  | some v, l, r => node p l r (some v)
  | none, nil, r => r
  | none, node p1 l1 r1 o1, nil => node p1 l1 r1 o1
  | none, node p1 l1 r1 o1, node p2 l2 r2 o2 => node p (node p1 l1 r1 o1) (node p2 l2 r2 o2) none
def del : BT → List Bool → BT
  | nil, _ => nil
  | node p l r o, x => if p = x then fix p l r none else if sideOf p x then fix p l (del r x) o else fix p (del l x) r o
theorem kid_get {p x : List Bool} {k : BT} (b : Bool) (hw : WF (p ++ [b]) k) (h : x = p ∨ ¬ p <+: x ∨ sideOf p x = !b) : get k x = none := by
  refine get_off hw fun hx => ?_
  obtain ⟨s, hs⟩ := snoc_prefix.1 hx
  rcases h with h | h | h
  · rw [h] at hs; have := congrArg List.length hs; simp at this
  · exact h (hs ▸ List.prefix_append _ _)
  · rw [hs, sideOf_app] at h; cases b <;> cases h
theorem fix_wf {q p : List Bool} {l r : BT} {o : Option Int} (h : q <+: p) (hl : WF (p ++ [false]) l) (hr : WF (p ++ [true]) r) : WF q (fix p l r o) := by
  unfold fix
  split
  · exact ⟨h, by simp, hl, hr⟩
  · exact weaken (h.trans (List.prefix_append _ _)) hr
  · exact weaken (h.trans (List.prefix_append _ _)) hl
  · exact ⟨h, by simp, hl, hr⟩
theorem fix_get {p : List Bool} {l r : BT} {o : Option Int} (hl : WF (p ++ [false]) l) (hr : WF (p ++ [true]) r) (y : List Bool) : get (fix p l r o) y = get (node p l r o) y := by
  unfold fix
  split
  · rfl
  · rw [get.eq_def (node _ _ _ _) y]
    simp only
    by_cases e : y = p
    · rw [if_pos e, kid_get true hr (.inl e)]
    · rw [if_neg e]
      by_cases e2 : p <+: y
      · rw [if_pos e2]
        cases hc : sideOf p y with
        | false => simp only [Bool.false_eq_true, if_false]; rw [kid_get true hr (.inr (.inr hc))]; rfl
        | true => simp only [if_true]
      · rw [if_neg e2, kid_get true hr (.inr (.inl e2))]
  · next p1 l1 r1 o1 =>
    rw [get.eq_def (node p _ _ _) y]
    simp only
    by_cases e : y = p
    · rw [if_pos e, kid_get false hl (.inl e)]
    · rw [if_neg e]
      by_cases e2 : p <+: y
      · rw [if_pos e2]
        cases hc : sideOf p y with
        | true => simp only [if_true]; rw [kid_get false hl (.inr (.inr hc))]; rfl
        | false => simp only [Bool.false_eq_true, if_false]
      · rw [if_neg e2, kid_get false hl (.inr (.inl e2))]
  · rfl
theorem del_spec : ∀ {t : BT} {q x : List Bool}, WF q t → get t x ≠ none → WF q (del t x) ∧ ∀ y, get (del t x) y = if y = x then none else get t y
  | nil, _, _, _, h => absurd rfl h
  | node p l r o, q, x, hw, h => by
    unfold del
    by_cases e : p = x
    · subst e
      rw [if_pos rfl]
      refine ⟨fix_wf hw.1 hw.2.2.1 hw.2.2.2, fun y => ?_⟩
      rw [fix_get hw.2.2.1 hw.2.2.2, get, get]
      by_cases e : y = p
      · rw [if_pos e, if_pos e]
      · rw [if_neg e, if_neg e, if_neg e]
    · rw [if_neg e]
      have hpx : p <+: x := by
        by_cases hp : p <+: x
        · exact hp
        · exact absurd (get_none hp) h
      obtain ⟨s, hs⟩ := strict_split hpx e
      cases hb : sideOf p x with
      | false =>
        rw [hb] at hs
        have h2 : get l x ≠ none := by
          intro k
          apply h
          rw [hs, get_side]
          simp only [Bool.false_eq_true, if_false]
          rw [← hs]; exact k
        obtain ⟨i1, i2⟩ := del_spec (t := l) (q := p ++ [false]) (x := x) hw.2.2.1 h2
        simp only [Bool.false_eq_true, if_false]
        refine ⟨fix_wf hw.1 i1 hw.2.2.2, fun y => ?_⟩
        rw [fix_get i1 hw.2.2.2, get, get]
        by_cases e1 : y = p
        · rw [if_pos e1, if_pos e1, if_neg (fun k => e (e1.symm.trans k))]
        · rw [if_neg e1, if_neg e1]
          by_cases e2 : p <+: y
          · rw [if_pos e2, if_pos e2]
            cases hc : sideOf p y with
            | false => simp only [Bool.false_eq_true, if_false]; exact i2 y
            | true => simp only [if_true]; rw [if_neg (fun k => by rw [k, hb] at hc; cases hc)]
          · rw [if_neg e2, if_neg e2, if_neg (show ¬ y = x from fun k => e2 (by rw [k]; exact hpx))]
      | true =>
        rw [hb] at hs
        have h2 : get r x ≠ none := by
          intro k
          apply h
          rw [hs, get_side]
          simp only [if_true]
          rw [← hs]; exact k
        obtain ⟨i1, i2⟩ := del_spec (t := r) (q := p ++ [true]) (x := x) hw.2.2.2 h2
        simp only [if_true]
        refine ⟨fix_wf hw.1 hw.2.2.1 i1, fun y => ?_⟩
        rw [fix_get hw.2.2.1 i1, get, get]
        by_cases e1 : y = p
        · rw [if_pos e1, if_pos e1, if_neg (fun k => e (e1.symm.trans k))]
        · rw [if_neg e1, if_neg e1]
          by_cases e2 : p <+: y
          · rw [if_pos e2, if_pos e2]
            cases hc : sideOf p y with
            | false => simp only [Bool.false_eq_true, if_false]; rw [if_neg (fun k => by rw [k, hb] at hc; cases hc)]
            | true => simp only [if_true]; exact i2 y
          · rw [if_neg e2, if_neg e2, if_neg (show ¬ y = x from fun k => e2 (by rw [k]; exact hpx))]

/-- What is found for an address of 32 bits: the longest entry on its path. -/
def upd (p : List Bool) (o : Option Int) (acc : Option (List Bool × Int)) : Option (List Bool × Int) := match o with | some v => some (p, v) | none => acc
def fnd : BT → List Bool → Option (List Bool × Int) → Option (List Bool × Int)
  | nil, _, acc => acc
  | node p l r o, a, acc =>
    if p <+: a then
      if p.length = 32 then (upd p o acc)
      else if sideOf p a then fnd r a (upd p o acc) else fnd l a (upd p o acc)
    else acc
theorem fnd_kid (b : Bool) (l r : BT) (a : List Bool) (acc : Option (List Bool × Int)) : (if b = true then fnd r a acc else fnd l a acc) = fnd (if b = true then r else l) a acc := by cases b <;> rfl
/-- f is the longest entry of g on the path a, or, where there is none, what was found before. -/
def Longest (g : List Bool → Option Int) (a : List Bool) (acc f : Option (List Bool × Int)) : Prop :=
  (f = acc ∧ ∀ y, y <+: a → g y = none) ∨ ∃ p v, f = some (p, v) ∧ p <+: a ∧ g p = some v ∧ ∀ y, y <+: a → p.length < y.length → g y = none
theorem fnd_spec : ∀ {t : BT} {q a : List Bool} {acc : Option (List Bool × Int)}, WF q t → a.length = 32 → Longest (get t) a acc (fnd t a acc)
  | nil, _, _, _, _, _ => .inl ⟨rfl, fun _ _ => rfl⟩
  | node p l r o, q, a, acc, hw, ha => by
    unfold fnd
    by_cases hp : p <+: a
    · rw [if_pos hp]
      have short : ∀ y, y <+: a → y.length < p.length → get (node p l r o) y = none := fun y _ hl => get_none (fun k => by have := k.length_le; omega)
      by_cases h32 : p.length = 32
      · rw [if_pos h32]
        have hpa : p = a := hp.eq_of_length (by omega)
        subst hpa
        cases o with
        | some v => exact .inr ⟨p, v, rfl, List.prefix_refl _, get_self .., fun y hy hl => by have := hy.length_le; omega⟩
        | none =>
          refine .inl ⟨rfl, fun y hy => ?_⟩
          rcases Nat.lt_or_ge y.length p.length with h | h
          · exact short y hy h
          · rw [hy.eq_of_length (Nat.le_antisymm hy.length_le h), get_self]
      · rw [if_neg h32, fnd_kid]
        have hne : p ≠ a := fun e => h32 (e ▸ ha)
        obtain ⟨s, hs⟩ := strict_split hp hne
        have kid : ∀ y, y <+: a → p.length < y.length → get (node p l r o) y = get (if sideOf p a then r else l) y := fun y hy hl => by
          obtain ⟨s2, hs2⟩ := List.prefix_of_prefix_length_le hp hy (by omega)
          cases s2 with
          | nil => rw [← hs2] at hl; simp at hl
          | cons b s2 =>
            have hb : b = sideOf p a := by
              rw [← hs2, hs] at hy
              exact (List.cons_prefix_cons.1 (List.prefix_append_right_inj p |>.1 hy)).1
            rw [← hs2, get_side, hb]
        have hk : ∀ acc', Longest (get (if sideOf p a then r else l)) a acc' (fnd (if sideOf p a then r else l) a acc') := fun acc' => by
          cases sideOf p a
          · exact fnd_spec hw.2.2.1 ha
          · exact fnd_spec hw.2.2.2 ha
        have small : ∀ y, y.length ≤ p.length → get (if sideOf p a then r else l) y = none := fun y hy => by
          cases sideOf p a
          · exact get_off hw.2.2.1 (fun k => by have := k.length_le; simp at this; omega)
          · exact get_off hw.2.2.2 (fun k => by have := k.length_le; simp at this; omega)
        rcases hk (upd p o acc) with ⟨h1, h2⟩ | ⟨p2, v2, h1, h2, h3, h4⟩
        · rw [h1]
          cases o with
          | some v =>
            refine .inr ⟨p, v, rfl, hp, get_self .., fun y hy hl => ?_⟩
            rw [kid y hy hl]; exact h2 y hy
          | none =>
            refine .inl ⟨rfl, fun y hy => ?_⟩
            rcases Nat.lt_trichotomy y.length p.length with h | h | h
            · exact short y hy h
            · have : y = p := (List.prefix_of_prefix_length_le hy hp (by omega)).eq_of_length h
              rw [this, get_self]
            · rw [kid y hy h]; exact h2 y hy
        · have hl : p.length < p2.length := by
            rcases Nat.lt_or_ge p.length p2.length with h | h
            · exact h
            · rw [small p2 h] at h3; cases h3
          refine .inr ⟨p2, v2, h1, h2, by rw [kid p2 h2 hl]; exact h3, fun y hy hl2 => ?_⟩
          rw [kid y hy (by omega)]; exact h4 y hy hl2
    · rw [if_neg hp]
      refine .inl ⟨rfl, fun y hy => get_none (fun k => hp (k.trans hy))⟩
theorem Longest.unique {g : List Bool → Option Int} {a : List Bool} {acc f f' : Option (List Bool × Int)} (h : Longest g a acc f) (k : Longest g a acc f') : f = f' := by
  rcases h with ⟨h1, h2⟩ | ⟨p, v, h1, h2, h3, h4⟩ <;> rcases k with ⟨k1, k2⟩ | ⟨p', v', k1, k2, k3, k4⟩
  · rw [h1, k1]
  · rw [h2 p' k2] at k3; cases k3
  · rw [k2 p h2] at h3; cases h3
  · have hl : p.length = p'.length := by
      rcases Nat.lt_trichotomy p.length p'.length with h | h | h
      · rw [h4 p' k2 h] at k3; cases k3
      · exact h
      · rw [k4 p h2 h] at h3; cases h3
    have hp : p = p' := (List.prefix_of_prefix_length_le h2 k2 (by omega)).eq_of_length hl
    subst hp
    rw [h3] at k3
    rw [h1, k1]
    injection k3 with e
    rw [e]

/-- The nodes' paths, and the number of entries. -/
def shp : BT → List (List Bool)
  | nil => []
  | node p l r _ => p :: (shp l ++ shp r)
def cnt : BT → Nat
  | nil => 0
  | node _ l r o => (if o.isSome then 1 else 0) + cnt l + cnt r
theorem few : ∀ {t : BT} {q : List Bool}, WF q t → t ≠ nil → (shp t).length + 1 ≤ 2 * cnt t
  | nil, _, _, h => absurd rfl h
  | node p l r o, q, hw, _ => by
    have hl : l = nil ∧ (shp l).length = 0 ∨ (shp l).length + 1 ≤ 2 * cnt l := by
      by_cases e : l = nil
      · subst e; exact .inl ⟨rfl, rfl⟩
      · exact .inr (few hw.2.2.1 e)
    have hr : r = nil ∧ (shp r).length = 0 ∨ (shp r).length + 1 ≤ 2 * cnt r := by
      by_cases e : r = nil
      · subst e; exact .inl ⟨rfl, rfl⟩
      · exact .inr (few hw.2.2.2 e)
    simp only [shp, cnt, List.length_cons, List.length_append]
    cases o with
    | some v =>
      simp only [Option.isSome_some, if_true]
      rcases hl with ⟨_, hl⟩ | hl <;> rcases hr with ⟨_, hr⟩ | hr <;> omega
    | none =>
      obtain ⟨n1, n2⟩ := hw.2.1 rfl
      rcases hl with ⟨e, _⟩ | hl
      · exact absurd e n1
      rcases hr with ⟨e, _⟩ | hr
      · exact absurd e n2
      simp only [Option.isSome_none, Bool.false_eq_true, if_false]
      omega
theorem mem_shp : ∀ {t : BT} {x : List Bool} {v : Int}, get t x = some v → x ∈ shp t
  | nil, _, _, h => by simp [get] at h
  | node p l r o, x, v, h => by
    simp only [shp, List.mem_cons, List.mem_append]
    by_cases e : x = p
    · exact .inl e
    · rw [get, if_neg e] at h
      by_cases e2 : p <+: x
      · rw [if_pos e2] at h
        cases hc : sideOf p x with
        | false => rw [hc] at h; exact .inr (.inl (mem_shp h))
        | true => rw [hc] at h; exact .inr (.inr (mem_shp h))
      · rw [if_neg e2] at h; cases h
theorem cnt_wth : ∀ {t : BT} {q x : List Bool} {v : Int}, WF q t → q <+: x → cnt (wth t x v) = cnt t + if (get t x).isSome then 0 else 1
  | nil, _, _, _, _, _ => rfl
  | node p l r o, q, x, v, hw, hx => by
    unfold wth
    by_cases h1 : lcp p x = p
    · rw [if_pos h1]
      have hpx := lcp_eq_left.1 h1
      by_cases h2 : lcp p x = x
      · rw [if_pos h2]
        obtain rfl : p = x := h1.symm.trans h2
        rw [get_self]
        cases o <;> simp [cnt] <;> omega
      · rw [if_neg h2]
        have hne : p ≠ x := fun e => h2 (by rw [h1]; exact e)
        obtain ⟨s, hs⟩ := strict_split hpx hne
        rw [get, if_neg (Ne.symm hne), if_pos hpx]
        cases hb : sideOf p x with
        | false =>
          rw [hb] at hs
          have := cnt_wth (t := l) (q := p ++ [false]) (x := x) (v := v) hw.2.2.1 (snoc_prefix.2 ⟨s, hs⟩)
          simp only [Bool.false_eq_true, if_false, cnt] at this ⊢
          omega
        | true =>
          rw [hb] at hs
          have := cnt_wth (t := r) (q := p ++ [true]) (x := x) (v := v) hw.2.2.2 (snoc_prefix.2 ⟨s, hs⟩)
          simp only [if_true, cnt] at this ⊢
          omega
    · rw [if_neg h1]
      by_cases h2 : lcp p x = x
      · rw [if_pos h2]
        have hxp := lcp_eq_right.1 h2
        have hne : x ≠ p := fun e => h1 (by rw [h2]; exact e)
        have self : get (node p l r o) x = none := get_none (fun k => hne (hxp.eq_of_length (Nat.le_antisymm hxp.length_le k.length_le)))
        rw [self]
        cases sideOf x p <;> simp [cnt] <;> omega
      · rw [if_neg h2]
        have self : get (node p l r o) x = none := get_none (fun k => h1 (lcp_eq_left.2 k))
        rw [self]
        cases sideOf (lcp p x) p <;> simp [cnt, leaf] <;> omega
end BT
end Go.Proofs.YtaknlphmplimhaaDoor
