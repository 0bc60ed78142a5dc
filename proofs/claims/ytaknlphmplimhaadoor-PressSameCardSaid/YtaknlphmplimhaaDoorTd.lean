/- The walk of (*trie.node).without: the subtrie without the entry at a path; a subtrie that the world holds and that has the path. -/
import Derived.Test.YtaknlphmplimhaaDoorTb
import Derived.StillTailTactics
import Derived.Deep.DeepCutAuto
import Derived.Deep.RegionWith
import Derived.IntWalk
set_option linter.unusedVariables false
set_option linter.unusedSimpArgs false
namespace Go.Proofs.YtaknlphmplimhaaDoor
open Go.RowKit Go.Proofs AT

def isNil : AT → Bool
  | .nil => true
  | .node .. => false
def prune (b : Nat) (l r : AT) (v : Int) (h : Bool) : AT := if !h && isNil l && isNil r then .nil else .node b l r v h
/-- What without makes of a tree that has the path. -/
def del : AT → List Bool → AT
  | .nil, _ => .nil
  | .node b l r v h, [] => prune b l r 0 false
  | .node b l r v h, false :: p => prune b (del l p) r v h
  | .node b l r v h, true :: p => prune b l (del r p) v h
theorem prune_dom (b : Nat) (l r : AT) (v : Int) (h : Bool) : (prune b l r v h).dom.Sublist (b :: (l.dom ++ r.dom)) := by
  unfold prune
  split
  · exact List.nil_sublist _
  · exact List.Sublist.refl _
theorem del_dom : ∀ (t : AT) (p : List Bool), (del t p).dom.Sublist t.dom
  | .nil, p => by cases p <;> exact List.nil_sublist _
  | .node b l r v h, [] => prune_dom b l r 0 false
  | .node b l r v h, false :: p => (prune_dom b (del l p) r v h).trans (((del_dom l p).append (List.Sublist.refl _)).cons_cons b)
  | .node b l r v h, true :: p => (prune_dom b l (del r p) v h).trans (((List.Sublist.refl _).append (del_dom r p)).cons_cons b)
theorem prune_get (b : Nat) (l r : AT) (v : Int) (h : Bool) (q : List Bool) : (prune b l r v h).get q = AT.get (.node b l r v h) q := by
  unfold prune
  split
  · next hc =>
    simp only [Bool.and_eq_true, Bool.not_eq_true'] at hc
    obtain ⟨⟨rfl, hl⟩, hr⟩ := hc
    cases l with
    | nil =>
      cases r with
      | nil =>
        cases q with
        | nil => rfl
        | cons c q =>
          show AT.top (AT.sub .nil (c :: q)) = AT.top (AT.sub (kid (.node b .nil .nil v false) c) q)
          rw [show kid (.node b .nil .nil v false) c = .nil by cases c <;> rfl]; rfl
      | node => cases hr
    | node => cases hl
  · rfl
theorem get_nil (q : List Bool) : AT.get .nil q = none := by unfold AT.get; rw [sub_nil]; rfl
/-- What is there behind del. -/
theorem del_get : ∀ (t : AT) (p q : List Bool), (del t p).get q = if q = p then none else t.get q
  | .nil, p, q => by
    have : del .nil p = .nil := by cases p <;> rfl
    rw [this, get_nil]; simp
  | .node b l r v h, [], q => by
    rw [del, prune_get]
    cases q with
    | nil => rfl
    | cons c q => rw [if_neg (by simp)]; rfl
  | .node b l r v h, c :: p, [] => by
    rw [if_neg (by simp)]
    cases c <;> rw [del, prune_get] <;> rfl
  | .node b l r v h, c :: p, d :: q => by
    have e : ∀ (l' r' : AT), AT.get (.node b l' r' v h) (d :: q) = (if d then r' else l').get q := by intro l' r'; cases d <;> rfl
    cases c <;> rw [del, prune_get, e, e]
    · cases d
      · simp [del_get l p q]
      · simp
    · cases d
      · simp
      · simp [del_get r p q]
/-- The rest of a path. -/
def suf (a i b : Nat) : List Bool := (List.range (b - i)).map fun j => bitB a (i + j)
theorem suf_end (a b : Nat) : suf a b b = [] := by simp [suf]
theorem suf_step (a i b : Nat) (h : i < b) : suf a i b = bitB a i :: suf a (i + 1) b := by
  unfold suf
  have : b - i = (b - (i + 1)) + 1 := by omega
  rw [this, List.range_succ_eq_map, List.map_cons, List.map_map]
  simp only [Nat.add_zero, List.cons.injEq, true_and]
  apply List.map_congr_left
  intro j _
  simp only [Function.comp]
  congr 1
  omega
theorem suf_zero (a b : Nat) : suf a 0 b = path a b := by simp [suf, path]

def addr : AT → Option Addr
  | .nil => none
  | .node b .. => some ⟨b, 0, none⟩
theorem ptr_addr (t : AT) : t.ptr = .pointer (addr t) := by cases t <;> rfl
def DelPost (w : World) (t : AT) (p : List Bool) (e : Ending) (w' : World) : Prop := e = .returned (.pointer (addr (del t p))) ∧ Rep w' (del t p) ∧ Kp t.dom w w'
theorem frozen_of_row {w : World} {g : Nat} {cs : Array Value} {t : TypeId} (h : w.heap[g]? = some (.cells cs t (0, 0))) (o : Nat) : w.frozen? ⟨g, o, none⟩ = false := by simp [World.frozen?, h]
theorem prune_rep {w : World} {b : Nat} {l r : AT} {v : Int} {h : Bool} (hr : Rep w (.node b l r v h)) : Rep w (prune b l r v h) := by
  unfold prune
  split
  · trivial
  · exact hr

set_option maxRecDepth 100000 in
set_option maxHeartbeats 2000000 in
theorem without_any (a b : Nat) (ha : a < 4294967296) (hb : b ≤ 32) : ∀ (t : AT) (i : Nat) (w : World), i ≤ b → Rep w t → t.dom.Nodup → t.sub (suf a i b) ≠ .nil →
    Calls Tryd.prog 81 #[t.ptr, .int .u32 a, .int .i64 i, .int .i64 b] w (DelPost w t (suf a i b)) := by
  intro t
  induction t with
  | nil => intro i w _ _ _ h; exact absurd (sub_nil _) h
  | node g l r v h ihl ihr =>
    intro i w hi hr hn hs
    obtain ⟨c0, c1, c2, c3⟩ := cell_node hr
    have hfz : ∀ o, w.frozen? ⟨g, o, none⟩ = false := fun o => by simp [World.frozen?, hr.1]
    have hgl := hr.lt g (by simp [dom])
    have nd : (g ∉ l.dom ∧ g ∉ r.dom) ∧ (l.dom ++ r.dom).Nodup := by simpa [dom] using hn
    by_cases hib : i = b
    · subst hib
      rw [suf_end]
      have f2 := hfz 2
      have f3 := hfz 3
      have HR := Lib.hid hr
      have HN := Lib.hid hn
      clear hr hn hs nd hfz ihl ihr
      rw [ptr_node]
      go_enter Tryd.func81, Tryd.ntmps81
      go_upto_region 5 with (fail)
      have hR2 := (HR.out.mark HN.out 0).mark3 (by simpa [dom] using HN.out) false
      have hK2 : Kp (AT.dom (.node g l r v h)) w ((w.setCell ⟨g, 2, none⟩ (.int .i64 0)).setCell ⟨g, 3, none⟩ (.bool false)) := ((Kp.refl _ w).setCell (p := ⟨g, 2, none⟩) (.inl (by simp [dom])) _).setCell (p := ⟨g, 3, none⟩) (.inl (by simp [dom])) _
      have HRy := Lib.hid hR2
      have HKy := Lib.hid hK2
      clear hR2 hK2
      generalize ((w.setCell ⟨g, 2, none⟩ (.int .i64 0)).setCell ⟨g, 3, none⟩ (.bool false)) = wy at HRy HKy ⊢
      clear c0 c1 c2 c3
      obtain ⟨c0, c1, c2, c3⟩ := cell_node HRy.out
      have hP := Lib.hid (show del (.node g l r v h) [] = prune g l r 0 false from rfl)
      have HQ := Lib.hid (prune_rep HRy.out)
      cases l <;> cases r
      all_goals
        simp only [ptr_nil, ptr_node] at c0 c1
        go_wp2_with fail
        go_ret
        exact ⟨ret_val (by rw [hP.out]; rfl), by rw [hP.out]; exact HQ.out, HKy.out⟩
    · have hiB : ((i : Int) == (b : Int)) = false := by rw [beq_eq_false_iff_ne]; omega
      cases hbit : bitB a i
      · have Hb := Lib.hid hbit
        rw [suf_step a i b (by omega), hbit] at hs ⊢
        have hs' : l.sub (suf a (i + 1) b) ≠ .nil := hs
        have hnk : l.dom.Nodup := (List.nodup_append.1 nd.2).1
        have hgk : g ∉ l.dom := nd.1.1
        have hgoo : g ∉ r.dom := nd.1.2
        have hgo : ∀ x, x ∈ r.dom → x ∉ l.dom := fun x hx hx' => (List.nodup_append.1 nd.2).2.2 x hx' x hx rfl
        have IH0 : ∀ W, Rep W l → Calls Tryd.prog 81 #[l.ptr, .int .u32 a, .int .i64 ((i : Int) + 1), .int .i64 b] W (DelPost W l (suf a (i + 1) b)) := fun W hW => by
          have := ihl (i + 1) W (by omega) hW hnk hs'
          rw [show ((i + 1 : Nat) : Int) = (i : Int) + 1 by omega] at this
          exact this
        have IH := Lib.hid IH0
        have HR := Lib.hid hr
        have HGO := Lib.hid hgo
        have HGK := Lib.hid hgk
        have HGOO := Lib.hid hgoo
        have hP := Lib.hid (show del (.node g l r v h) (false :: suf a (i + 1) b) = prune g (del l (suf a (i + 1) b)) r v h from rfl)
        have hdd := (del_dom l (suf a (i + 1) b)).subset
        have HDD := Lib.hid hdd
        clear hbit hs hs' hnk nd hfz ihl ihr hr hn hgo IH0 hgk hgoo hdd
        generalize hdl : del l (suf a (i + 1) b) = dl at hP HDD
        have HDL := Lib.hid hdl
        clear hdl
        rw [ptr_node]
        go_enter Tryd.func81, Tryd.ntmps81
        go_wp2_with fail
        refine (bit_false a i _ ha (by omega) Hb.out).mono ?_
        rintro e w1 ⟨rfl, rfl⟩
        go_wp2_with fail
        have hwr : IntKind.i64.wrap ((i : Int) + 1) = (i : Int) + 1 := IntWalk.i64_in _ (by omega)
        go_region_with (go_at_call 81; (refine (IH.out _ ?_).mono ?_); exact HR.out.2.1.keep fun _ _ => rfl; rintro e w2 ⟨rfl, hq1, hq2⟩; rw [HDL.out] at hq1 ⊢; have hgb : w2.heap[g]? = some (.cells (cellsN l.ptr r.ptr v h) 106 (0, 0)) := (hq2.block g hgl HGK.out).trans HR.out.1; have d0 : w2.cell? ⟨g, 0, none⟩ = some l.ptr := cell_of_row w2 g 0 _ 106 (0, 0) hgb; have e0 : w2.frozen? ⟨g, 0, none⟩ = false := frozen_of_row hgb 0; have hg2 : g < w2.heap.size := (Array.getElem?_eq_some_iff.1 hgb).1; have HGB := Lib.hid hgb; have HQ1 := Lib.hid hq1; have HQ2 := Lib.hid hq2; clear hgb hq1 hq2)
        have hro : Rep w2 r := HR.out.2.2.keep fun x hx => HQ2.out.block x (HR.out.2.2.lt x hx) (HGO.out x hx)
        have hgd : g ∉ dl.dom := fun hx => HGK.out (HDD.out hx)
        have hR2 : Rep (w2.setCell ⟨g, 0, none⟩ (.pointer (addr dl))) (.node g dl r v h) := by
          refine ⟨?_, HQ1.out.far hgd _, hro.far HGOO.out _⟩
          have := heap_setCell_same (i := 0) HGB.out (.pointer (addr dl))
          rw [this]; simp [cellsN, ptr_addr]
        have hK2 : Kp (AT.dom (.node g l r v h)) w1 (w2.setCell ⟨g, 0, none⟩ (.pointer (addr dl))) := ((Kp.refl _ _).drew.step HQ2.out (fun x hx => .inl (by simp [dom, hx]))).setCell (p := ⟨g, 0, none⟩) (.inl (by simp [dom])) _
        have HRy := Lib.hid hR2
        have HKy := Lib.hid hK2
        clear hR2 hK2 hro hgd
        generalize w2.setCell ⟨g, 0, none⟩ (.pointer (addr dl)) = wy at HRy HKy ⊢
        clear c0 c1 c2 c3 d0 e0
        obtain ⟨c0, c1, c2, c3⟩ := cell_node HRy.out
        have HQ := Lib.hid (prune_rep HRy.out)
        cases h
        · cases dl <;> cases r
          all_goals
            simp only [ptr_nil, ptr_node] at c0 c1
            go_wp2_with fail
            go_ret
            exact ⟨ret_val (by rw [hP.out]; rfl), by rw [hP.out]; exact HQ.out, HKy.out⟩
        · go_wp2_with fail
          go_ret
          exact ⟨ret_val (by rw [hP.out]; rfl), by rw [hP.out]; exact HQ.out, HKy.out⟩
      · have Hb := Lib.hid hbit
        rw [suf_step a i b (by omega), hbit] at hs ⊢
        have hs' : r.sub (suf a (i + 1) b) ≠ .nil := hs
        have hnk : r.dom.Nodup := (List.nodup_append.1 nd.2).2.1
        have hgk : g ∉ r.dom := nd.1.2
        have hgoo : g ∉ l.dom := nd.1.1
        have hgo : ∀ x, x ∈ l.dom → x ∉ r.dom := fun x hx hx' => (List.nodup_append.1 nd.2).2.2 x hx x hx' rfl
        have IH0 : ∀ W, Rep W r → Calls Tryd.prog 81 #[r.ptr, .int .u32 a, .int .i64 ((i : Int) + 1), .int .i64 b] W (DelPost W r (suf a (i + 1) b)) := fun W hW => by
          have := ihr (i + 1) W (by omega) hW hnk hs'
          rw [show ((i + 1 : Nat) : Int) = (i : Int) + 1 by omega] at this
          exact this
        have IH := Lib.hid IH0
        have HR := Lib.hid hr
        have HGO := Lib.hid hgo
        have HGK := Lib.hid hgk
        have HGOO := Lib.hid hgoo
        have hP := Lib.hid (show del (.node g l r v h) (true :: suf a (i + 1) b) = prune g l (del r (suf a (i + 1) b)) v h from rfl)
        have hdd := (del_dom r (suf a (i + 1) b)).subset
        have HDD := Lib.hid hdd
        clear hbit hs hs' hnk nd hfz ihl ihr hr hn hgo IH0 hgk hgoo hdd
        generalize hdl : del r (suf a (i + 1) b) = dl at hP HDD
        have HDL := Lib.hid hdl
        clear hdl
        rw [ptr_node]
        go_enter Tryd.func81, Tryd.ntmps81
        go_wp2_with fail
        refine (bit_true a i _ ha (by omega) Hb.out).mono ?_
        rintro e w1 ⟨rfl, rfl⟩
        go_wp2_with fail
        have hwr : IntKind.i64.wrap ((i : Int) + 1) = (i : Int) + 1 := IntWalk.i64_in _ (by omega)
        go_region_with (go_at_call 81; (refine (IH.out _ ?_).mono ?_); exact HR.out.2.2.keep fun _ _ => rfl; rintro e w2 ⟨rfl, hq1, hq2⟩; rw [HDL.out] at hq1 ⊢; have hgb : w2.heap[g]? = some (.cells (cellsN l.ptr r.ptr v h) 106 (0, 0)) := (hq2.block g hgl HGK.out).trans HR.out.1; have d0 : w2.cell? ⟨g, 1, none⟩ = some r.ptr := cell_of_row w2 g 1 _ 106 (0, 0) hgb; have e0 : w2.frozen? ⟨g, 1, none⟩ = false := frozen_of_row hgb 1; have hg2 : g < w2.heap.size := (Array.getElem?_eq_some_iff.1 hgb).1; have HGB := Lib.hid hgb; have HQ1 := Lib.hid hq1; have HQ2 := Lib.hid hq2; clear hgb hq1 hq2)
        have hro : Rep w2 l := HR.out.2.1.keep fun x hx => HQ2.out.block x (HR.out.2.1.lt x hx) (HGO.out x hx)
        have hgd : g ∉ dl.dom := fun hx => HGK.out (HDD.out hx)
        have hR2 : Rep (w2.setCell ⟨g, 1, none⟩ (.pointer (addr dl))) (.node g l dl v h) := by
          refine ⟨?_, hro.far HGOO.out _, HQ1.out.far hgd _⟩
          have := heap_setCell_same (i := 1) HGB.out (.pointer (addr dl))
          rw [this]; simp [cellsN, ptr_addr]
        have hK2 : Kp (AT.dom (.node g l r v h)) w1 (w2.setCell ⟨g, 1, none⟩ (.pointer (addr dl))) := ((Kp.refl _ _).drew.step HQ2.out (fun x hx => .inl (by simp [dom, hx]))).setCell (p := ⟨g, 1, none⟩) (.inl (by simp [dom])) _
        have HRy := Lib.hid hR2
        have HKy := Lib.hid hK2
        clear hR2 hK2 hro hgd
        generalize w2.setCell ⟨g, 1, none⟩ (.pointer (addr dl)) = wy at HRy HKy ⊢
        clear c0 c1 c2 c3 d0 e0
        obtain ⟨c0, c1, c2, c3⟩ := cell_node HRy.out
        have HQ := Lib.hid (prune_rep HRy.out)
        cases h
        · cases dl <;> cases l
          all_goals
            simp only [ptr_nil, ptr_node] at c0 c1
            go_wp2_with fail
            go_ret
            exact ⟨ret_val (by rw [hP.out]; rfl), by rw [hP.out]; exact HQ.out, HKy.out⟩
        · go_wp2_with fail
          go_ret
          exact ⟨ret_val (by rw [hP.out]; rfl), by rw [hP.out]; exact HQ.out, HKy.out⟩
end Go.Proofs.YtaknlphmplimhaaDoor
