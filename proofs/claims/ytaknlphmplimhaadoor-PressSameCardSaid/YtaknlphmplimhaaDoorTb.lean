/- The walks of trie.New, Get, and of Put where the entry is there: a trie that the world holds; an address of 32 bits. -/
import Derived.Test.YtaknlphmplimhaaDoorTa
import Derived.RegionTactic
import Derived.ChangeAlike
set_option linter.unusedVariables false
set_option linter.unusedSimpArgs false
namespace Go.Proofs.YtaknlphmplimhaaDoor
open Go.RowKit Go.Proofs

set_option maxHeartbeats 400000 in
theorem new_any (w : World) : Calls Tryd.prog 76 #[] w fun e w' => e = .returned (.pointer (some ⟨w.heap.size, 0, none⟩)) ∧ w.alloc (.cells #[.pointer none, .int .i64 0] 109) = w' := by
  go_enter Tryd.func76, Tryd.ntmps76
  go_wp2
  go_ret
  exact ⟨rfl, rfl⟩

def getR (t : AT) (a : Nat) (b : Int) : Int × Int := if chkE a b ≠ 0 then (0, chkE a b) else match t.get (path a b.toNat) with | some v => (v, 0) | none => (0, 4)
set_option maxHeartbeats 1000000 in
theorem get_any (tb : Nat) (t : AT) (z : Int) (a : Nat) (b : Int) (w : World) (ha : a < 4294967296) (hT : TR w tb z t) :
    Calls Tryd.prog 22 #[.pointer (some ⟨tb, 0, none⟩), .agg #[.int .u32 a, .int .i64 b]] w fun e w' => e = .returned (.tuple #[.int .i64 (getR t a b).1, .int .i64 (getR t a b).2]) ∧ Below w.heap.size w w' := by
  by_cases hc : chkE a b = 0
  · obtain ⟨h0, h1, _⟩ := chkE_zero.1 hc
    obtain ⟨b, rfl⟩ := Int.eq_ofNat_of_zero_le h0
    have hg : getR t a b = match AT.top (t.sub (path a b)) with | some v => (v, 0) | none => (0, 4) := by
      unfold getR; rw [if_neg (by simpa using hc)]; rfl
    have Hc := Lib.hid hc
    have Hg := Lib.hid hg
    have HT := Lib.hid hT
    clear hc hg hT
    go_enter Tryd.func22, Tryd.ntmps22
    go_wp2_with fail
    refine (check_any a b _ ha).mono ?_
    rw [Hc.out]
    rintro e w1 ⟨rfl, hb⟩
    have hcl : ∀ o, w1.cell? ⟨w.heap.size, o, none⟩ = _ := fun o => hb.cell (p := ⟨w.heap.size, o, none⟩) (by simp)
    have hs1 : w.heap.size + 1 ≤ w1.heap.size := by have := hb.size; simp at this; omega
    have hB : Below w.heap.size w w1 := bthen ((Below.refl _ _).alloc (Nat.le_refl _) _) (by simp) hb
    have HT1 := Lib.hid (HT.out.grow hB)
    go_wp2_with fail
    refine (at_any tb t z a b _ ha (by omega) HT1.out.root HT1.out.rep).mono ?_
    rintro e w2 ⟨rfl, hb2⟩
    have HT2 := Lib.hid (HT1.out.grow hb2)
    have hs := HT2.out.rep.sub (path a b)
    have hB2 : Below w.heap.size w w2 := bthen hB (by omega) hb2
    generalize t.sub (path a b) = s at hs Hg ⊢
    cases s with
    | nil =>
      simp only [ptr_nil, ptr_node]
      go_wp2_with fail
      go_ret2
      exact ⟨by rw [Hg.out]; rfl, hB2⟩
    | node g l r v h =>
      obtain ⟨c0, c1, c2, c3⟩ := cell_node hs
      simp only [ptr_nil, ptr_node]
      cases h
      · go_wp2_with fail
        go_ret2
        exact ⟨by rw [Hg.out]; rfl, hB2⟩
      · go_wp2_with fail
        go_ret2
        exact ⟨by rw [Hg.out]; rfl, hB2⟩
  · have hg : getR t a b = (0, chkE a b) := by unfold getR; rw [if_pos hc]
    have Hg := Lib.hid hg
    have Hd : (chkE a b != 0) = true := by simpa using hc
    clear hc hg
    go_enter Tryd.func22, Tryd.ntmps22
    go_wp2_with fail
    refine (check_any a b _ ha).mono ?_
    rintro e w1 ⟨rfl, hb⟩
    go_wp2_with fail
    go_ret2
    exact ⟨by rw [Hg.out]; rfl, bthen ((Below.refl _ _).alloc (Nat.le_refl _) _) (by simp) hb⟩
/-- What Put gives. -/
def PutPost (w : World) (tb : Nat) (z : Int) (t : AT) (a b : Nat) (v : Int) (e : Ending) (w' : World) : Prop :=
  e = .returned (.int .i64 0) ∧ ∃ t' z', TR w' tb z' t' ∧ z ≤ z' ∧ z' ≤ z + 1 ∧ (∀ q, t'.get q = if q = path a b then some v else t.get q) ∧ Kp (tb :: t.dom) w w' ∧ ∀ x, x ∈ t'.dom → x ∈ t.dom ∨ w.heap.size ≤ x

theorem get_plug_set {k : List Fr} {g : Nat} {l r : AT} {v v' : Int} {h h' : Bool} {t : AT} (p : List Bool) (hk : sides k = p) (hg : ∀ q, (plug k (.node g l r v h)).get q = t.get q) (q : List Bool) :
    (plug k (.node g l r v' h')).get q = if q = p then (if h' then some v' else none) else t.get q := by
  subst hk
  by_cases hq : q = sides k
  · rw [if_pos hq, hq]
    have := get_plug k (.node g l r v' h') []
    rw [List.append_nil] at this
    rw [this]; rfl
  · rw [if_neg hq, ← hg q]
    by_cases hp : sides k <+: q
    · obtain ⟨r', rfl⟩ := hp
      rw [get_plug, get_plug]
      cases r' with
      | nil => exact absurd (by simp) hq
      | cons c r' => rfl
    · exact get_plug_other k _ _ q hp

set_option maxHeartbeats 2000000 in
theorem put_old (tb : Nat) (t : AT) (z : Int) (a b : Nat) (v : Int) (w : World) (ha : a < 4294967296) (hc : chkE a b = 0) (hT : TR w tb z t) (g : Nat) (l r : AT) (v0 : Int) (hs : t.sub (path a b) = .node g l r v0 true) :
    Calls Tryd.prog 24 #[.pointer (some ⟨tb, 0, none⟩), .agg #[.int .u32 a, .int .i64 b], .int .i64 v] w (PutPost w tb z t a b v) := by
  obtain ⟨h0, h1, _⟩ := chkE_zero.1 hc
  have Hc := Lib.hid hc
  have HT := Lib.hid hT
  have HS := Lib.hid hs
  have hlt : ∀ x, x ∈ tb :: t.dom → x < w.heap.size := hT.lt
  have hgm : g ∈ t.dom := by
    obtain ⟨k, e1, _⟩ := sub_plug (path a b) t [] (by rw [hs]; exact AT.noConfusion)
    rw [show t = plug k (t.sub (path a b)) from e1.symm, mem_plug, hs]
    simp [AT.dom]
  have hgl : g < w.heap.size := hlt g (by simp [hgm])
  clear hc hT hs hlt
  go_enter Tryd.func24, Tryd.ntmps24
  go_wp2_with fail
  refine (check_any a b _ ha).mono ?_
  rw [Hc.out]
  rintro e w1 ⟨rfl, hb⟩
  have hcl : ∀ o, w1.cell? ⟨w.heap.size, o, none⟩ = _ := fun o => hb.cell (p := ⟨w.heap.size, o, none⟩) (by simp)
  have hs1 : w.heap.size + 1 ≤ w1.heap.size := by have := hb.size; simp at this; omega
  have hB : Below w.heap.size w w1 := bthen ((Below.refl _ _).alloc (Nat.le_refl _) _) (by simp) hb
  have HT1 := Lib.hid (HT.out.grow hB)
  go_wp2_with fail
  refine (at_any tb t z a b _ ha (by omega) HT1.out.root HT1.out.rep).mono ?_
  rw [HS.out]
  rintro e w2 ⟨rfl, hb2⟩
  have HT2 := Lib.hid (HT1.out.grow hb2)
  have hs := HT2.out.rep.sub (path a b)
  rw [HS.out] at hs
  have hB2 : Below w.heap.size w w2 := bthen hB (by omega) hb2
  obtain ⟨c0, c1, c2, c3⟩ := cell_node hs
  have hfz : w2.frozen? ⟨g, 2, none⟩ = false := by simp [World.frozen?, hs.1]
  simp only [ptr_nil, ptr_node]
  go_wp2_with fail
  go_ret
  refine ⟨rfl, ?_⟩
  obtain ⟨k, e1, e2⟩ := sub_plug (path a b) t [] (by rw [HS.out]; exact AT.noConfusion)
  rw [HS.out] at e1
  have e1' : plug k (.node g l r v0 true) = t := e1
  have hT2 := HT2.out
  rw [← e1'] at hT2
  obtain ⟨k1, k2⟩ := (krep_plug k _).2 ⟨hT2.root, hT2.rep⟩
  have nd := nd_plug.1 hT2.nd
  have hn2 : (AT.dom (.node g l r v0 true)).Nodup := (List.nodup_append.1 (List.nodup_cons.1 nd).2).2.1
  have hgk : g ∉ tb :: kdom k := by
    intro hx
    simp only [List.nodup_cons, List.mem_append, not_or, List.nodup_append, AT.dom, List.mem_cons] at nd hx
    rcases hx with rfl | hx
    · exact nd.1.2.1 rfl
    · exact nd.2.2.2 g hx g (.inl rfl) rfl
  refine ⟨plug k (.node g l r v true), z, TR.of_plug (k1.far hgk _) (k2.mark hn2 v) nd, by omega, by omega, ?_, ?_, ?_⟩
  · intro q
    have := get_plug_set (v' := v) (h' := true) (path a b) e2 (fun q => by rw [e1']) q
    simpa using this
  · exact (Kp.of_below hB2).setCell (.inl (by simp [hgm])) _
  · intro x hx
    left
    rw [← e1', mem_plug] 
    rw [mem_plug] at hx
    exact hx
end Go.Proofs.YtaknlphmplimhaaDoor
