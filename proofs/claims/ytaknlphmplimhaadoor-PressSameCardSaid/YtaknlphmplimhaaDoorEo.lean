/- The listing of a tree, plainly: it is sorted, without a twin, within its prefix; it hangs on the entries alone; a table of at most six has at most six; no condition beyond those that each lemma names. -/
import Derived.Test.YtaknlphmplimhaaDoorEn
import Derived.Test.YtaknlphmplimhaaDoorPa
set_option linter.unusedVariables false
set_option linter.unusedSimpArgs false
namespace Go.Proofs.YtaknlphmplimhaaDoor
open Go.RowKit Go.Proofs AT

theorem ents_in : ∀ (t : AT) (a d : Nat), Val a d → ∀ e, e ∈ ents t a d → a ≤ e.a ∧ e.a < a + 2 ^ (32 - d) ∧ (d : Int) ≤ e.b
  | .nil, a, d, _, e, h => by simp [ents] at h
  | .node b l r v h, a, d, hV, e, hm => by
    have hp := Nat.pow_pos (n := 32 - d) (show 0 < 2 by decide)
    simp only [ents, List.mem_append] at hm
    rcases hm with h1 | h1
    · cases h with
      | false => simp at h1
      | true => simp at h1; subst h1; exact ⟨Nat.le_refl _, by simp only; omega, Int.le_refl _⟩
    · by_cases h32 : d = 32
      · rw [if_pos h32] at h1; simp at h1
      · rw [if_neg h32, List.mem_append] at h1
        have hd : d < 32 := by have := hV.2.1; omega
        have hs := pow_step hd
        have e1 : 32 - (d + 1) = 31 - d := by omega
        rcases h1 with h1 | h1
        · obtain ⟨q1, q2, q3⟩ := ents_in l a (d + 1) (hV.left hd) e h1
          rw [e1] at q2
          exact ⟨q1, by omega, by omega⟩
        · obtain ⟨q1, q2, q3⟩ := ents_in r _ (d + 1) (hV.right hd) e h1
          rw [e1] at q2
          exact ⟨by omega, by omega, by omega⟩
theorem cmpP_neg_of {a c : Nat} {b d : Int} (h : a < c ∨ a = c ∧ b < d) : cmpP a b c d < 0 := by
  rcases cmpP_cases a b c d with k | k | k <;> omega
/-- The listing is in increasing order. -/
theorem ents_sorted : ∀ (t : AT) (a d : Nat), Val a d → (ents t a d).Pairwise fun x y => cmpP x.a x.b y.a y.b < 0
  | .nil, a, d, _ => by simp [ents]
  | .node b l r v h, a, d, hV => by
    simp only [ents]
    rw [List.pairwise_append]
    have hd32 := hV.2.1
    refine ⟨by cases h <;> simp, ?_, ?_⟩
    · by_cases h32 : d = 32
      · rw [if_pos h32]; exact List.Pairwise.nil
      · rw [if_neg h32, List.pairwise_append]
        have hd : d < 32 := by omega
        refine ⟨ents_sorted l a (d + 1) (hV.left hd), ents_sorted r _ (d + 1) (hV.right hd), fun x hx y hy => cmpP_neg_of (.inl ?_)⟩
        have q1 := ents_in l a (d + 1) (hV.left hd) x hx
        have q2 := ents_in r _ (d + 1) (hV.right hd) y hy
        rw [show 32 - (d + 1) = 31 - d by omega] at q1
        omega
    · intro x hx y hy
      cases h with
      | false => simp at hx
      | true =>
        simp at hx
        subst hx
        by_cases h32 : d = 32
        · rw [if_pos h32] at hy; simp at hy
        · rw [if_neg h32, List.mem_append] at hy
          have hd : d < 32 := by omega
          have hp := Nat.pow_pos (n := 31 - d) (show 0 < 2 by decide)
          apply cmpP_neg_of
          rcases hy with hy | hy
          · have := ents_in l a (d + 1) (hV.left hd) y hy
            simp only
            omega
          · have := ents_in r _ (d + 1) (hV.right hd) y hy
            simp only
            omega
theorem ents_nodup (t : AT) (a d : Nat) (hV : Val a d) : (ents t a d).Nodup :=
  (ents_sorted t a d hV).imp fun {x y} h e => by
    subst e
    have := (cmpP_zero (a := x.a) (b := x.b) (c := x.a) (d := x.b)).2 ⟨rfl, rfl⟩
    omega
theorem len_le {α : Type} : ∀ (l m : List α), l.Nodup → (∀ x, x ∈ l → x ∈ m) → l.length ≤ m.length
  | [], _, _, _ => Nat.zero_le _
  | x :: l, m, hn, hs => by
    obtain ⟨m1, m2, rfl⟩ := List.append_of_mem (hs x (by simp))
    rw [List.nodup_cons] at hn
    have := len_le l (m1 ++ m2) hn.2 (fun y hy => by
      have h := hs y (by simp [hy])
      simp only [List.mem_append, List.mem_cons] at h ⊢
      rcases h with h | rfl | h
      · exact .inl h
      · exact absurd hy hn.1
      · exact .inr h)
    simp only [List.length_append, List.length_cons] at this ⊢
    omega
/-- A subtrie's listing is part of the whole. -/
theorem sub_mem (t : AT) (a d : Nat) (hV : Val a d) (e : En) (h : e ∈ ents (t.sub (path a d)) a d) : e ∈ ents t 0 0 := by
  obtain ⟨k, h1, h2, h3, ⟨q, hq⟩, h5⟩ := (mem_ents _ a d hV e).1 h
  refine (mem_all t e).2 ⟨k, h1, h3, ?_⟩
  rw [← hq, List.drop_left' (path_length a d)] at h5
  rw [← hq]
  unfold AT.get at h5 ⊢
  rw [sub_append]
  exact h5
/-- What a built table holds comes from what was put. -/
theorem builtM_mem : ∀ (es : List En) (q : List Bool) (v : Int), builtM es q = some v → ∃ x, x ∈ es ∧ chkE x.a x.b = 0 ∧ path x.a x.b.toNat = q ∧ x.v = v := by
  intro es
  unfold builtM
  suffices H : ∀ (es : List En) (m : List Bool → Option Int) (q : List Bool) (v : Int), es.foldl putM m q = some v → m q = some v ∨ ∃ x, x ∈ es ∧ chkE x.a x.b = 0 ∧ path x.a x.b.toNat = q ∧ x.v = v by
    intro q v h
    rcases H es _ q v h with h | h
    · cases h
    · exact h
  intro es
  induction es with
  | nil => intro m q v h; exact .inl h
  | cons x es ih =>
    intro m q v h
    rcases ih (putM m x) q v h with h | ⟨y, hy, h2⟩
    · unfold putM at h
      by_cases hc : chkE x.a x.b = 0 ∧ q = path x.a x.b.toNat
      · rw [if_pos hc] at h
        exact .inr ⟨x, by simp, hc.1, hc.2.symm, by injection h⟩
      · rw [if_neg hc] at h
        exact .inl h
    · exact .inr ⟨y, by simp [hy], h2⟩
theorem Val_of_chk {a : Nat} {b : Int} (ha : a < 4294967296) (h : chkE a b = 0) : ∃ k : Nat, b = k ∧ Val a k := by
  obtain ⟨h0, h1, h2⟩ := chkE_zero.1 h
  obtain ⟨k, rfl⟩ := Int.eq_ofNat_of_zero_le h0
  exact ⟨k, rfl, (Val_chk ha).2 h⟩
theorem ents_len {t : AT} {es : List En} (hsm : ∀ e, e ∈ es → e.a < 4294967296) (h : t.get = builtM es) : (ents t 0 0).length ≤ es.length := by
  refine len_le _ _ (ents_nodup t 0 0 ⟨by decide, by decide, by decide⟩) fun e he => ?_
  obtain ⟨k, h1, h2, h3⟩ := (mem_all t e).1 he
  rw [h] at h3
  obtain ⟨x, hx, hc, hp, hv⟩ := builtM_mem es _ _ h3
  obtain ⟨j, hj, hVx⟩ := Val_of_chk (hsm x hx) hc
  have hl := congrArg List.length hp
  rw [path_length, path_length, hj] at hl
  have hjk : j = k := by omega
  subst hjk
  rw [hj] at hp
  have ha : x.a = e.a := path_inj hVx.1 h2.1 h2.2.1 hVx.2.2 h2.2.2 (by simpa using hp)
  have : e = x := by cases e; cases x; simp_all
  rw [this]; exact hx
theorem sub_len {t : AT} {es : List En} (hsm : ∀ e, e ∈ es → e.a < 4294967296) (h : t.get = builtM es) {a d : Nat} (hV : Val a d) : (ents (t.sub (path a d)) a d).length ≤ es.length :=
  Nat.le_trans (len_le _ _ (ents_nodup _ a d hV) (fun e he => sub_mem t a d hV e he)) (ents_len hsm h)
/-- The listing hangs on what Get finds. -/
theorem ents_same : ∀ (t s : AT) (a d : Nat), (∀ q, t.get q = s.get q) → ents t a d = ents s a d
  | .nil, .nil, _, _, _ => rfl
  | .nil, .node b l r v h, a, d, hg => by
    have h0 := hg []
    have hh : h = false := by
      cases h
      · rfl
      · cases h0
    subst hh
    have hl : ents .nil a (d + 1) = ents l a (d + 1) := ents_same .nil l a (d + 1) fun q => by rw [get_nil]; have := hg (false :: q); rw [get_nil] at this; exact this
    have hr : ents .nil (a + 2 ^ (31 - d)) (d + 1) = ents r (a + 2 ^ (31 - d)) (d + 1) := ents_same .nil r _ (d + 1) fun q => by rw [get_nil]; have := hg (true :: q); rw [get_nil] at this; exact this
    simp only [ents] at hl hr ⊢
    rw [← hl, ← hr]
    simp
  | .node b l r v h, .nil, a, d, hg => by
    have h0 := hg []
    have hh : h = false := by
      cases h
      · rfl
      · cases h0
    subst hh
    have hl : ents l a (d + 1) = ents .nil a (d + 1) := ents_same l .nil a (d + 1) fun q => by rw [get_nil]; have := hg (false :: q); rw [get_nil] at this; exact this
    have hr : ents r (a + 2 ^ (31 - d)) (d + 1) = ents .nil (a + 2 ^ (31 - d)) (d + 1) := ents_same r .nil _ (d + 1) fun q => by rw [get_nil]; have := hg (true :: q); rw [get_nil] at this; exact this
    simp only [ents] at hl hr ⊢
    rw [hl, hr]
    simp
  | .node b l r v h, .node b' l' r' v' h', a, d, hg => by
    have h0 : AT.top (.node b l r v h) = AT.top (.node b' l' r' v' h') := hg []
    have hl := ents_same l l' a (d + 1) fun q => hg (false :: q)
    have hr := ents_same r r' (a + 2 ^ (31 - d)) (d + 1) fun q => hg (true :: q)
    simp only [ents, hl, hr]
    congr 1
    unfold AT.top at h0
    cases h <;> cases h' <;> simp at h0 ⊢
    exact h0
end Go.Proofs.YtaknlphmplimhaaDoor
