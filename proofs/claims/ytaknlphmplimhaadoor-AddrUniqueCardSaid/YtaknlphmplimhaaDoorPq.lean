/- Plain laws of Parse and Print: parR at dotted, and back; prefixes; Itoa's contract at the octets from the table's. -/
import Derived.Test.YtaknlphmplimhaaDoorPs
import Derived.Test.YtaknlphmplimhaaDoorPx
set_option linter.unusedVariables false
set_option linter.unusedSimpArgs false
namespace Go.Proofs.YtaknlphmplimhaaDoor
open Go.RowKit Go.Proofs Go.Sort
theorem oct_lt (a k : Nat) : oct a k < 256 := Nat.mod_lt _ (by decide)
theorem numV_dec {n : Nat} (h : n < 1000) : numV (Lib.decDigits n) = n := by unfold numV; rw [(num_dec h).1]; exact (num_dec h).2
theorem oct_lt' (a k : Nat) : oct a k < 1000 := Nat.lt_trans (oct_lt a k) (by decide)
theorem octs4 (a : Nat) : (octs a 4).map (·.data.toList) = [Lib.decDigits (oct a 0), Lib.decDigits (oct a 1), Lib.decDigits (oct a 2), Lib.decDigits (oct a 3)] := rfl
theorem dotted_eq (a : Nat) : dotted a = Lib.decDigits (oct a 0) ++ 46 :: (Lib.decDigits (oct a 1) ++ 46 :: (Lib.decDigits (oct a 2) ++ 46 :: Lib.decDigits (oct a 3))) := by
  unfold dotted
  rw [octs4]
  unfold Lib.join
  rw [List.intercalate_cons_cons, List.intercalate_cons_cons, List.intercalate_cons_cons]
  simp
theorem dotted_len (a : Nat) : (dotted a).length ≤ 15 := by
  rw [dotted_eq]
  have h0 := (dec_len (oct_lt' a 0)).2
  have h1 := (dec_len (oct_lt' a 1)).2
  have h2 := (dec_len (oct_lt' a 2)).2
  have h3 := (dec_len (oct_lt' a 3)).2
  simp
  omega
theorem dotted_no (a : Nat) : (47 : UInt8) ∉ dotted a := by
  rw [dotted_eq]
  have h := fun k => dec_no (oct_lt' a k) 47 (by decide)
  simp [h]
theorem sp_dotted (a : Nat) : sp 46 (dotted a) = [Lib.decDigits (oct a 0), Lib.decDigits (oct a 1), Lib.decDigits (oct a 2), Lib.decDigits (oct a 3)] := by
  unfold dotted
  rw [octs4, sp_join]
  have h := fun k => dec_no (oct_lt' a k) 46 (by decide)
  intro q hq
  simp at hq
  rcases hq with rfl | rfl | rfl | rfl
  · exact h 0
  · exact h 1
  · exact h 2
  · exact h 3
theorem par_dotted (a : Nat) (ha : a < 4294967296) : parR (dotted a) = (a, 0) := by
  unfold parR
  rw [sp_dotted]
  have hb := fun k => (num_dec (oct_lt' a k)).1
  have hv := fun k => numV_dec (oct_lt' a k)
  have hl := fun k => oct_lt a k
  rw [if_pos ⟨rfl, by simp [hb]⟩]
  have hbig : bigB [Lib.decDigits (oct a 0), Lib.decDigits (oct a 1), Lib.decDigits (oct a 2), Lib.decDigits (oct a 3)] 4 = false := by
    have := hl 0; have := hl 1; have := hl 2; have := hl 3
    simp only [bigB, List.getD_cons_zero, List.getD_cons_succ, hv]
    simp
    omega
  rw [hbig, if_neg (by decide)]
  simp only [accN, List.getD_cons_zero, List.getD_cons_succ, hv, Prod.mk.injEq, and_true]
  simp only [oct, Nat.mul_zero, Nat.sub_zero, Nat.mul_one, Nat.reduceMul, Nat.reduceSub, Nat.reducePow, Nat.pow_zero, Nat.div_one]
  omega
theorem par_back {s : List UInt8} {a : Nat} (h : parR s = (a, 0)) : dotted a = s ∧ a < 4294967296 := by
  unfold parR at h
  by_cases h4 : (sp 46 s).length = 4 ∧ (sp 46 s).all numB = true
  · rw [if_pos h4] at h
    obtain ⟨hl, hall⟩ := h4
    have hj := join_sp 46 s
    match hs : sp 46 s, hl with
    | [p0, p1, p2, p3], _ =>
      rw [hs] at h hall hj
      simp only [List.all_cons, List.all_nil, Bool.and_true, Bool.and_eq_true] at hall
      obtain ⟨n0, n1, n2, n3⟩ := hall
      cases hbig : bigB [p0, p1, p2, p3] 4 with
      | true => rw [hbig, if_pos rfl] at h; simp at h
      | false =>
        rw [hbig, if_neg (by decide)] at h
        simp only [Prod.mk.injEq, and_true] at h
        simp only [bigB, List.getD_cons_zero, List.getD_cons_succ, Bool.or_eq_false_iff, decide_eq_false_iff_not, true_and] at hbig
        simp only [accN, List.getD_cons_zero, List.getD_cons_succ] at h
        obtain ⟨⟨⟨g0, g1⟩, g2⟩, g3⟩ := hbig
        have d0 := (dec_num n0).1
        have d1 := (dec_num n1).1
        have d2 := (dec_num n2).1
        have d3 := (dec_num n3).1
        have v0 : numV p0 = valD p0 := by unfold numV; rw [n0]; rfl
        have v1 : numV p1 = valD p1 := by unfold numV; rw [n1]; rfl
        have v2 : numV p2 = valD p2 := by unfold numV; rw [n2]; rfl
        have v3 : numV p3 = valD p3 := by unfold numV; rw [n3]; rfl
        rw [v0] at g0 h; rw [v1] at g1 h; rw [v2] at g2 h; rw [v3] at g3 h
        have o0 : oct a 0 = valD p0 := by simp only [oct, Nat.mul_zero, Nat.sub_zero, Nat.mul_one, Nat.reduceMul, Nat.reduceSub, Nat.reducePow, Nat.pow_zero, Nat.div_one]; omega
        have o1 : oct a 1 = valD p1 := by simp only [oct, Nat.mul_zero, Nat.sub_zero, Nat.mul_one, Nat.reduceMul, Nat.reduceSub, Nat.reducePow, Nat.pow_zero, Nat.div_one]; omega
        have o2 : oct a 2 = valD p2 := by simp only [oct, Nat.mul_zero, Nat.sub_zero, Nat.mul_one, Nat.reduceMul, Nat.reduceSub, Nat.reducePow, Nat.pow_zero, Nat.div_one]; omega
        have o3 : oct a 3 = valD p3 := by simp only [oct, Nat.mul_zero, Nat.sub_zero, Nat.mul_one, Nat.reduceMul, Nat.reduceSub, Nat.reducePow, Nat.pow_zero, Nat.div_one]; omega
        refine ⟨?_, by omega⟩
        unfold dotted
        rw [octs4, o0, o1, o2, o3, d0, d1, d2, d3]
        exact hj
  · rw [if_neg h4] at h
    simp at h
theorem par_err (s : List UInt8) : (parR s).2 = 0 ∨ (parR s).2 = 10 ∨ (parR s).2 = 11 := by
  unfold parR
  split
  · split
    · exact .inr (.inl rfl)
    · exact .inl rfl
  · exact .inr (.inr rfl)
theorem par_lt (s : List UInt8) : (parR s).1 < 4294967296 := by
  unfold parR
  split
  · split
    · exact (by decide : 0 < 4294967296)
    · exact accN_lt _ _
  · exact (by decide : 0 < 4294967296)
theorem pfxS_eq (a b : Nat) : (pfxS a b).data.toList = dotted a ++ 47 :: Lib.decDigits b := by
  unfold pfxS decB
  simp
/-- The table that Itoa reads, carried over a call. -/
theorem tab_below {w w' : World} {n : String} {k : IntKind} {zs : List Int} (h : Lib.TabIs Tryd.prog w n k zs) (hb : Below w.heap.size w w') : Lib.TabIs Tryd.prog w' n k zs := by
  unfold Lib.TabIs World.var? at h ⊢
  cases hg : Tryd.prog.globalNamed n with
  | none => simp [hg] at h
  | some g =>
    simp only [hg, Option.bind_some] at h ⊢
    have hlt : g < w.heap.size := by
      rcases Nat.lt_or_ge g w.heap.size with h' | h'
      · exact h'
      · simp [Array.getElem?_eq_none h'] at h
    rw [hb.block g hlt]
    exact h
theorem below_growN {w : World} (n : Nat) (os : Array Obj) : Below w.heap.size w (grow (w.drewN n) os) := by
  refine ⟨rfl, rfl, rfl, ?_, fun k hk => ?_⟩
  · unfold grow; simp
  · unfold grow
    show (w.heap ++ os)[k]? = w.heap[k]?
    rw [Array.getElem?_append_left hk]
theorem itoaAt_of {w : World} (a : Nat) (h : Lib.TabIs Tryd.prog w "internal/strconv.uint64pow10" .u64 Lib.pow10Tab) : ItoaAt a w := by
  intro k W hk hW
  have hn : ((oct a k : Nat) : Int) = ((oct a k : Nat) : Int) := rfl
  refine (Sh.strconv_Itoa (oct a k : Nat) (by omega) (by have := oct_lt a k; omega) W (tab_below h hW)).mono ?_
  rintro e w' ⟨rfl, n, os, rfl⟩
  refine ⟨?_, ?_⟩
  · rw [Lib.itoa_nonneg]; rfl
  · exact below_growN n os
end Go.Proofs.YtaknlphmplimhaaDoor
