/- Plain laws of compressed tables against listings: what Of makes of a trie's entries, the nodes' order, what is found; no walk. -/
import Derived.Test.YtaknlphmplimhaaDoorPy
set_option linter.unusedVariables false
set_option linter.unusedSimpArgs false
namespace Go.Proofs.YtaknlphmplimhaaDoor
open Go.RowKit Go.Proofs AT
abbrev pathE (e : En) : List Bool := path e.a e.b.toNat
theorem bOf_ind {P : List En → Prop} (h0 : P []) (h1 : ∀ es e, P es → P (es ++ [e])) : ∀ es, P es := by
  intro es
  have : ∀ n (es : List En), es.length = n → P es := by
    intro n
    induction n with
    | zero => intro es h; rw [List.length_eq_zero_iff.1 h]; exact h0
    | succ n ih =>
      intro es h
      have hne : es ≠ [] := by intro e; rw [e] at h; simp at h
      rw [← List.dropLast_concat_getLast hne]
      exact h1 _ _ (ih _ (by simp [h]))
  exact this _ es rfl
theorem bOf_wf : ∀ es, BT.WF [] (bOf es) := bOf_ind trivial fun es e ih => by rw [bOf_snoc]; exact (BT.wth_spec ih List.nil_prefix).1
theorem bOf_get (es : List En) (e : En) (y : List Bool) : (bOf (es ++ [e])).get y = if y = pathE e then some e.v else (bOf es).get y := by
  rw [bOf_snoc]; exact (BT.wth_spec (bOf_wf es) List.nil_prefix).2 y
theorem bOf_mem : ∀ (es : List En) (y : List Bool) (v : Int), (bOf es).get y = some v → ∃ e, e ∈ es ∧ pathE e = y ∧ e.v = v := by
  refine bOf_ind (fun y v h => by simp [bOf, BT.get] at h) fun es e ih y v h => ?_
  rw [bOf_get] at h
  by_cases hy : y = pathE e
  · rw [if_pos hy] at h
    injection h with h
    exact ⟨e, by simp, hy.symm, h⟩
  · rw [if_neg hy] at h
    obtain ⟨x, h1, h2, h3⟩ := ih y v h
    exact ⟨x, by simp [h1], h2, h3⟩
theorem bOf_some : ∀ (es : List En), (es.Pairwise fun x y => pathE x ≠ pathE y) → ∀ e, e ∈ es → (bOf es).get (pathE e) = some e.v := by
  refine bOf_ind (fun _ e h => by simp at h) fun es x ih hp e he => ?_
  rw [List.pairwise_append] at hp
  rw [bOf_get]
  rcases List.mem_append.1 he with h | h
  · rw [if_neg (hp.2.2 e h x (by simp))]
    exact ih hp.1 e h
  · simp only [List.mem_singleton] at h
    subst h
    rw [if_pos rfl]
theorem bOf_new {es : List En} (hp : es.Pairwise fun x y => pathE x ≠ pathE y) : ∀ i (h : i < es.length), (bOf (es.take i)).get (path es[i].a es[i].b.toNat) = none := by
  intro i h
  cases hg : (bOf (es.take i)).get (path es[i].a es[i].b.toNat) with
  | none => rfl
  | some v =>
    obtain ⟨e, h1, h2, _⟩ := bOf_mem _ _ _ hg
    obtain ⟨j, hj, rfl⟩ := List.mem_iff_getElem.1 h1
    rw [List.getElem_take] at h2
    have hj2 : j < i := by simp at hj; omega
    exact absurd h2 (List.pairwise_iff_getElem.1 hp j i (by omega) h hj2)
theorem bOf_cnt : ∀ (es : List En), (es.Pairwise fun x y => pathE x ≠ pathE y) → (bOf es).cnt = es.length := by
  refine bOf_ind (fun _ => rfl) fun es x ih hp => ?_
  have h1 := bOf_new hp es.length (by simp)
  rw [List.take_left'  rfl] at h1
  simp only [List.getElem_concat_length] at h1
  rw [bOf_snoc, BT.cnt_wth (bOf_wf es) List.nil_prefix, h1, ih (List.pairwise_append.1 hp).1]
  simp
theorem bOf_nil : ∀ (es : List En), bOf es = .nil → es = [] := by
  refine bOf_ind (fun _ => rfl) fun es x _ h => ?_
  rw [bOf_snoc] at h
  exact absurd h (BT.wth_ne _ _ _)
/-- The entries of a trie have different paths. -/
theorem ents_paths (t : AT) : (ents t 0 0).Pairwise fun x y => pathE x ≠ pathE y := by
  refine (List.Pairwise.imp_of_mem ?_ (ents_sorted t 0 0 Val0))
  intro x y hx hy hlt hp
  obtain ⟨k, h1, h2, _⟩ := (mem_all t x).1 hx
  obtain ⟨j, h3, h4, _⟩ := (mem_all t y).1 hy
  rw [pathE, pathE, h1, h3, Int.toNat_natCast, Int.toNat_natCast] at hp
  obtain ⟨e1, e2⟩ := path_same h2 h4 hp
  have := (cmpP_zero (a := x.a) (b := x.b) (c := y.a) (d := y.b)).2 ⟨e1, by rw [h1, h3, e2]⟩
  omega
theorem ents_ok (t : AT) : ∀ e, e ∈ ents t 0 0 → chkE e.a e.b = 0 := fun e he => by
  obtain ⟨k, h1, h2, _⟩ := (mem_all t e).1 he
  rw [h1]; exact (Val_chk h2.1).1 h2
/-- The compressed table of a trie's entries has the trie's entries. -/
theorem bOf_ents {t : AT} (hk : ∀ q, t.get q ≠ none → ∃ a k, Val a k ∧ q = path a k) (y : List Bool) : (bOf (ents t 0 0)).get y = t.get y := by
  cases hy : t.get y with
  | some v =>
    obtain ⟨a, k, hV, rfl⟩ := hk y (by rw [hy]; simp)
    have hm : (⟨a, k, v⟩ : En) ∈ ents t 0 0 := (mem_all t _).2 ⟨k, rfl, hV, hy⟩
    have := bOf_some _ (ents_paths t) _ hm
    simpa [pathE] using this
  | none =>
    cases hg : (bOf (ents t 0 0)).get y with
    | none => rfl
    | some v =>
      obtain ⟨e, h1, h2, h3⟩ := bOf_mem _ _ _ hg
      obtain ⟨k, h4, h5, h6⟩ := (mem_all t e).1 h1
      rw [← h2, pathE, h4, Int.toNat_natCast, h6] at hy
      cases hy

/-! ### the nodes' order -/
abbrev pathP (p : Pf) : List Bool := path p.a p.b.toNat
theorem prefs_ext : ∀ {t : PT} {q : List Bool}, BT.WF q t.bt → ∀ p, p ∈ prefs t → q <+: pathP p
  | .node g a d l r v h, q, hw, p, hp => by
    simp only [prefs, List.mem_cons, List.mem_append] at hp
    rcases hp with rfl | hp | hp
    · simpa [pathP] using hw.1
    · exact (hw.1.trans (List.prefix_append _ _)).trans (prefs_ext hw.2.2.1 p hp)
    · exact (hw.1.trans (List.prefix_append _ _)).trans (prefs_ext hw.2.2.2 p hp)
theorem bit_lt {a c d : Nat} (ha : a < 4294967296) (hc : c < 4294967296) (hd : d < 32) (hp : path a d = path c d) (h1 : bitB a d = false) (h2 : bitB c d = true) : a < c := by
  have hV1 := val_masked ha (show d ≤ 32 by omega)
  have hV2 := val_masked hc (show d ≤ 32 by omega)
  have e := path_inj hV1.1 hV2.1 (by omega) hV1.2.2 hV2.2.2 (by rw [path_masked _ _ (by omega), path_masked _ _ (by omega)]; exact hp)
  rw [sz_nat] at e
  have hpw := Nat.pow_pos (n := 32 - d) (show 0 < 2 by decide)
  have e2 : a / 2 ^ (32 - d) = c / 2 ^ (32 - d) := Nat.eq_of_mul_eq_mul_right hpw e
  have b1 : a / 2 ^ (31 - d) % 2 = 0 := by
    have := bitN_lt a d
    unfold bitB at h1
    rw [beq_eq_false_iff_ne] at h1
    have : bitN a d = 0 := by omega
    exact this
  have b2 : c / 2 ^ (31 - d) % 2 = 1 := by
    unfold bitB at h2
    exact beq_iff_eq.1 h2
  have s1 : a / 2 ^ (31 - d) / 2 = a / 2 ^ (32 - d) := by rw [Nat.div_div_eq_div_mul, ← Nat.pow_succ, show (31 - d).succ = 32 - d by omega]
  have s2 : c / 2 ^ (31 - d) / 2 = c / 2 ^ (32 - d) := by rw [Nat.div_div_eq_div_mul, ← Nat.pow_succ, show (31 - d).succ = 32 - d by omega]
  have hlt : a / 2 ^ (31 - d) < c / 2 ^ (31 - d) := by omega
  refine Nat.lt_of_not_le fun hle => ?_
  have := Nat.div_le_div_right (c := 2 ^ (31 - d)) hle
  omega
theorem prefs_sorted {w : World} : ∀ {t : PT} {q : List Bool}, RepP w t → BT.WF q t.bt → (prefs t).Pairwise fun x y => cmpP x.a x.b y.a y.b < 0
  | .nil, _, _, _ => by simp [prefs]
  | .node g a d l r v h, q, hr, hw => by
    simp only [prefs, List.pairwise_cons, List.pairwise_append]
    have hV := hr.1.1
    have kid : ∀ (b : Bool) (k : PT), RepP w k → BT.WF (path a d ++ [b]) k.bt → ∀ p, p ∈ prefs k → ∃ j : Nat, p.b = j ∧ Val p.a j ∧ d < j ∧ path a d = path p.a d ∧ bitB p.a d = b := by
      intro b k hrk hwk p hp
      obtain ⟨j, h1, h2⟩ := prefs_val hrk p hp
      have h3 := prefs_ext hwk p hp
      rw [pathP, h1, Int.toNat_natCast] at h3
      have hl := h3.length_le
      rw [path_length, List.length_append, path_length, List.length_singleton] at hl
      have h4 : path a d = path p.a d := (List.prefix_of_prefix_length_le ((List.prefix_append _ _).trans h3) (path_pre (by omega)) (by rw [path_length, path_length]; exact Nat.le_refl _)).eq_of_length (by rw [path_length, path_length])
      refine ⟨j, h1, h2, by omega, h4, ?_⟩
      obtain ⟨s, hs⟩ := h3
      have := path_at (a := p.a) (b := j) (i := d) (by omega)
      rw [← hs] at this
      simpa [path_length] using this.symm
    have head : ∀ p : Pf, (∃ j : Nat, p.b = (j : Int) ∧ Val p.a j ∧ d < j ∧ path a d = path p.a d) → cmpP a d p.a p.b < 0 := by
      rintro p ⟨j, h1, h2, h3, h4⟩
      have hw2 : withinB p.a (j : Int) a d = true := (within_path h2 hV).2 (by rw [h4]; exact path_pre (by omega))
      have := cmpP_within hw2 (by omega)
      have hn := cmpP_neg a d p.a p.b
      rw [h1] at hn ⊢
      omega
    refine ⟨fun p hp => ?_, prefs_sorted hr.2.1 hw.2.2.1, prefs_sorted hr.2.2 hw.2.2.2, fun x hx y hy => ?_⟩
    · rcases List.mem_append.1 hp with hp | hp
      · obtain ⟨j, h1, h2, h3, h4, _⟩ := kid false l hr.2.1 hw.2.2.1 p hp
        exact head p ⟨j, h1, h2, h3, h4⟩
      · obtain ⟨j, h1, h2, h3, h4, _⟩ := kid true r hr.2.2 hw.2.2.2 p hp
        exact head p ⟨j, h1, h2, h3, h4⟩
    · obtain ⟨j, h1, h2, h3, h4, h5⟩ := kid false l hr.2.1 hw.2.2.1 x hx
      obtain ⟨i, k1, k2, k3, k4, k5⟩ := kid true r hr.2.2 hw.2.2.2 y hy
      have hlt : x.a < y.a := bit_lt h2.1 k2.1 (by have := h2.2.1; omega) (h4.symm.trans k4) h5 k5
      rcases cmpP_cases x.a x.b y.a y.b with h | h | h <;> omega
/-- Equal plain tries have equal nodes. -/
theorem prefs_eq {w w' : World} : ∀ {t u : PT}, RepP w t → RepP w' u → t.bt = u.bt → prefs t = prefs u
  | .nil, .nil, _, _, _ => rfl
  | .nil, .node .., _, _, h => by simp [PT.bt] at h
  | .node .., .nil, _, _, h => by simp [PT.bt] at h
  | .node g a d l r v h, .node g' a' d' l' r' v' h', h1, h2, e => by
    simp only [PT.bt, BT.node.injEq] at e
    obtain ⟨e1, e2, e3, _⟩ := e
    obtain ⟨rfl, rfl⟩ := path_same h1.1.1 h2.1.1 e1
    simp only [prefs]
    rw [prefs_eq h1.2.1 h2.2.1 e2, prefs_eq h1.2.2 h2.2.2 e3]
theorem prefs_has {w : World} {t : PT} (hr : RepP w t) {x : En} (hc : ∃ k : Nat, x.b = k ∧ Val x.a k) {v : Int} (hg : t.bt.get (pathE x) = some v) : ((prefs t).any fun p => eqP ⟨x.a, x.b⟩ p) = true := by
  have hm := BT.mem_shp hg
  rw [← prefs_shp, List.mem_map] at hm
  obtain ⟨p, hp, he⟩ := hm
  obtain ⟨j, h1, h2⟩ := prefs_val hr p hp
  obtain ⟨k, k1, k2⟩ := hc
  rw [pathE, h1, k1, Int.toNat_natCast, Int.toNat_natCast] at he
  obtain ⟨e1, e2⟩ := path_same h2 k2 he
  rw [List.any_eq_true]
  refine ⟨p, hp, eqP_iff.2 ?_⟩
  cases p
  simp only at h1 e1
  rw [k1, h1, e1, e2]
/-- How many nodes there are. -/
theorem prefs_few {w : World} {t : PT} {es : List En} (hr : RepP w t) (hb : t.bt = bOf es) (hp : es.Pairwise fun x y => pathE x ≠ pathE y) :
    (prefs t).length < 2 * es.length ∨ (prefs t).length = 0 ∧ es.length = 0 := by
  by_cases h : t.bt = .nil
  · right
    have he := bOf_nil es (hb ▸ h)
    rw [prefs_len, h, he]
    exact ⟨rfl, rfl⟩
  · left
    have h1 := BT.few (q := []) (by rw [hb]; exact bOf_wf es) h
    rw [hb, bOf_cnt es hp, ← hb] at h1
    rw [prefs_len]
    omega

/-! ### what is found -/
theorem longest_of_best {t : AT} {x : Nat} : BT.Longest t.get (path x 32) none ((best t x 33).map fun p => (path x p.1, p.2)) := by
  cases hb : best t x 33 with
  | none =>
    refine .inl ⟨rfl, fun y hy => ?_⟩
    have hl := hy.length_le
    rw [path_length] at hl
    have he : y = path x y.length := (List.prefix_of_prefix_length_le hy (path_pre hl) (by rw [path_length]; exact Nat.le_refl _)).eq_of_length (by rw [path_length])
    rw [he]
    exact best_none hb _ (by omega)
  | some p =>
    obtain ⟨h1, h2, h3⟩ := best_some (d := p.1) (v := p.2) hb
    refine .inr ⟨path x p.1, p.2, rfl, path_pre (by omega), h2, fun y hy hlt => ?_⟩
    have hl := hy.length_le
    rw [path_length] at hl hlt
    have he : y = path x y.length := (List.prefix_of_prefix_length_le hy (path_pre hl) (by rw [path_length]; exact Nat.le_refl _)).eq_of_length (by rw [path_length])
    rw [he]
    exact h3 _ hlt (by omega)
/-- A compressed table finds what the trie with the same entries finds. -/
theorem found_same {t : AT} {u : BT} {x : Nat} {acc : Fo} (hx : x < 4294967296) (hg : ∀ y, u.get y = t.get y) (hw : BT.WF [] u) (ha : foB acc = BT.fnd u (path x 32) none ∧ foOk acc) :
    foA acc = fa x (best t x 33) ∧ foD acc = fd (best t x 33) ∧ foV acc = fv (best t x 33) ∧ acc.isSome = (best t x 33).isSome := by
  have hL := BT.fnd_spec (acc := none) hw (path_length x 32)
  rw [show u.get = t.get from funext hg, ← ha.1] at hL
  have he := hL.unique longest_of_best
  cases acc with
  | none =>
    cases hb : best t x 33 with
    | none => exact ⟨rfl, rfl, rfl, rfl⟩
    | some p => rw [hb] at he; cases he
  | some q =>
    obtain ⟨a, d, v⟩ := q
    cases hb : best t x 33 with
    | none => rw [hb] at he; cases he
    | some p =>
      obtain ⟨k, u2⟩ := p
      rw [hb] at he
      simp only [foB, Option.map_some, Option.some.injEq, Prod.mk.injEq] at he
      have hk := (best_some hb).1
      have hV := val_masked hx (show k ≤ 32 by omega)
      have hOk : Val a d := ha.2
      obtain ⟨e1, e2⟩ := path_same hOk hV (by rw [path_masked _ _ (by omega)]; exact he.1)
      refine ⟨?_, ?_, ?_, rfl⟩
      · show (a : Int) = ((x / sz (k : Int) * sz (k : Int) : Nat) : Int)
        rw [e1]
      · show (d : Int) = (k : Int)
        rw [e2]
      · exact he.2
end Go.Proofs.YtaknlphmplimhaaDoor
