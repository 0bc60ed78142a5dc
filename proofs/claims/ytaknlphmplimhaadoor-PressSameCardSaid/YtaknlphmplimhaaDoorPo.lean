/- The walk of (*press.node).with: a subtrie with an entry more; a subtrie that the world holds. -/
import Derived.Test.YtaknlphmplimhaaDoorPm
import Derived.StillTailTactics
import Derived.Deep.DeepCutAuto
import Derived.Deep.RegionWith
import Derived.Deep.RegionHeld3
import Derived.Deep.QuietTactic
import Derived.BigQuiet
set_option linter.unusedVariables false
set_option linter.unusedSimpArgs false
namespace Go.Proofs.YtaknlphmplimhaaDoor
open Go.RowKit Go.Proofs
attribute [local go_sem high] eqA25
def WithPost (t : PT) (x : List Bool) (v : Int) (w : World) (e : Ending) (w' : World) : Prop :=
  ∃ t' : PT, e = .returned (.pointer t'.addr) ∧ RepP w' t' ∧ t'.bt = BT.wth t.bt x v ∧ t'.dom.Nodup ∧ (∀ y ∈ t'.dom, y ∈ t.dom ∨ w.heap.size ≤ y) ∧ Kp t.dom w w'
set_option maxHeartbeats 1000000 in
theorem with_nil (a b : Nat) (v : Int) (w : World) (hV : Val a b) : Calls Tryd.prog 90 #[.pointer none, .agg #[.int .u32 a, .int .i64 b], .int .i64 v] w (WithPost .nil (path a b) v w) := by
  have HV := Lib.hid hV
  clear hV
  go_enter Tryd.func90, Tryd.ntmps90
  go_wp2_with fail
  go_ret
  refine ⟨.node (w.alloc (.cells #[.int .u32 a, .int .i64 b] 25)).heap.size a b .nil .nil v true, by simp [PT.addr], ⟨⟨HV.out, ?_⟩, trivial, trivial⟩, rfl, by simp [PT.dom], fun y hy => .inr (by simp [PT.dom] at hy; omega), Kp.of_below (((Below.refl _ _).alloc (Nat.le_refl _) _).alloc (by simp) _)⟩
  exact heap_alloc_new (w.alloc _) _
theorem frozenP {w : World} {g a d : Nat} {l r : PT} {v : Int} {h : Bool} (hr : RepP w (.node g a d l r v h)) (o : Nat) : w.frozen? ⟨g, o, none⟩ = false := frozen_of_row hr.1.2 o
theorem nodP {g a d : Nat} {l r : PT} {v : Int} {h : Bool} (hn : (PT.dom (.node g a d l r v h)).Nodup) : (g ∉ l.dom ∧ g ∉ r.dom) ∧ l.dom.Nodup ∧ r.dom.Nodup ∧ (∀ x, x ∈ l.dom → x ∉ r.dom) := by
  have h1 : (g ∉ l.dom ∧ g ∉ r.dom) ∧ (l.dom ++ r.dom).Nodup := by simpa [PT.dom] using hn
  have h2 := List.nodup_append.1 h1.2
  exact ⟨h1.1, h2.1, h2.2.1, fun x hx hx' => h2.2.2 x hx x hx' rfl⟩
/-- The value and the mark are stored. -/
theorem RepP.put {w : World} {g a d : Nat} {l r : PT} {v : Int} {h : Bool} (hr : RepP w (.node g a d l r v h)) (hn : (PT.dom (.node g a d l r v h)).Nodup) (v' : Int) (h' : Bool) :
    RepP ((w.setCell ⟨g, 4, none⟩ (.int .i64 v')).setCell ⟨g, 5, none⟩ (.bool h')) (.node g a d l r v' h') := by
  obtain ⟨⟨n1, n2⟩, _⟩ := nodP hn
  refine ⟨⟨hr.1.1, ?_⟩, (hr.2.1.far (q := ⟨g, 4, none⟩) n1 _).far (q := ⟨g, 5, none⟩) n1 _, (hr.2.2.far (q := ⟨g, 4, none⟩) n2 _).far (q := ⟨g, 5, none⟩) n2 _⟩
  have := heap_setCell_same (heap_setCell_same hr.1.2 4 (.int .i64 v')) 5 (.bool h')
  rw [this]; simp [cellsP]
theorem wth_same (x : List Bool) (l r : BT) (o : Option Int) (v : Int) : BT.wth (.node x l r o) x v = .node x l r (some v) := by
  unfold BT.wth
  have : lcp x x = x := lcp_eq_left.2 (List.prefix_refl _)
  rw [if_pos this, if_pos this]
theorem wth_down {p x : List Bool} (l r : BT) (o : Option Int) (v : Int) (h1 : lcp p x = p) (h2 : p ≠ x) : BT.wth (.node p l r o) x v = if sideOf p x then .node p l (BT.wth r x v) o else .node p (BT.wth l x v) r o := by
  conv => lhs; unfold BT.wth
  rw [if_pos h1, if_neg (by rw [h1]; exact h2)]
theorem wth_up {p x : List Bool} (l r : BT) (o : Option Int) (v : Int) (h1 : lcp p x ≠ p) (h2 : lcp p x = x) : BT.wth (.node p l r o) x v = if sideOf x p then .node x .nil (.node p l r o) (some v) else .node x (.node p l r o) .nil (some v) := by
  conv => lhs; unfold BT.wth
  rw [if_neg h1, if_pos h2]
theorem wth_fork {p x c : List Bool} (l r : BT) (o : Option Int) (v : Int) (hc : lcp p x = c) (h1 : c ≠ p) (h2 : c ≠ x) : BT.wth (.node p l r o) x v = if sideOf c p then .node c (BT.leaf x v) (.node p l r o) none else .node c (.node p l r o) (BT.leaf x v) none := by
  subst hc
  conv => lhs; unfold BT.wth
  rw [if_neg h1, if_neg h2]
theorem with_close_l {w W w2 : World} {g a d : Nat} {l r : PT} {v : Int} {h : Bool} {t2 : PT} (hr : RepP W (.node g a d l r v h)) (hn : (PT.dom (.node g a d l r v h)).Nodup) (hB : Below w.heap.size w W) (q1 : RepP w2 t2) (q3 : t2.dom.Nodup) (q4 : ∀ y ∈ t2.dom, y ∈ l.dom ∨ W.heap.size ≤ y) (q5 : Kp l.dom W w2) :
    RepP (w2.setCell ⟨g, 2, none⟩ (.pointer t2.addr)) (.node g a d t2 r v h) ∧ (PT.dom (.node g a d t2 r v h)).Nodup ∧ (∀ y ∈ PT.dom (.node g a d t2 r v h), y ∈ PT.dom (.node g a d l r v h) ∨ w.heap.size ≤ y) ∧ Kp (PT.dom (.node g a d l r v h)) w (w2.setCell ⟨g, 2, none⟩ (.pointer t2.addr)) := by
  obtain ⟨⟨n1, n2⟩, nl, nr, hd⟩ := nodP hn
  have hgW := hr.lt g (by simp [PT.dom])
  have hsz := hB.size
  have hgk : g ∉ l.dom := by first | exact n1 | exact n2
  have hgo : g ∉ r.dom := by first | exact n1 | exact n2
  have hrow : w2.heap[g]? = W.heap[g]? := q5.block g hgW hgk
  have hoth : RepP W r := by first | exact hr.2.1 | exact hr.2.2
  have hok : ∀ x, x ∈ r.dom → x ∉ l.dom := by first | exact hd | exact fun x hx hx' => hd x hx' hx
  have hro : RepP w2 r := hoth.keep fun x hx => q5.block x (hoth.lt x hx) (hok x hx)
  have hgd : g ∉ t2.dom := fun hx => by rcases q4 g hx with h | h; exact hgk h; omega
  have hdis : ∀ x, x ∈ t2.dom → x ∉ r.dom := fun x hx hx' => by rcases q4 x hx with h | h; exact hok x hx' h; have := hoth.lt x hx'; omega
  refine ⟨⟨⟨hr.1.1, ?_⟩, q1.far (q := ⟨g, 2, none⟩) hgd _, (hro).far (q := ⟨g, 2, none⟩) hgo _⟩, ?_, fun y hy => ?_, ?_⟩
  · have := heap_setCell_same (hrow.trans hr.1.2) 2 (.pointer t2.addr)
    rw [this]; simp [cellsP]
  · simp only [PT.dom, List.nodup_cons, List.mem_append, not_or]
    exact ⟨⟨hgd, hgo⟩, List.nodup_append.2 ⟨q3, nr, fun x hx y hy e => hdis x hx (e ▸ hy)⟩⟩
  · simp only [PT.dom, List.mem_cons, List.mem_append] at hy ⊢
    rcases hy with hy | hy | hy
    · exact .inl (.inl hy)
    · rcases q4 y hy with h | h
      · exact .inl (.inr (.inl h))
      · exact .inr (by omega)
    · exact .inl (.inr (.inr hy))
  · exact ((Kp.of_below hB).step q5 (fun x hx => .inl (by simp [PT.dom, hx]))).setCell (p := ⟨g, 2, none⟩) (.inl (by simp [PT.dom])) _
theorem with_close_r {w W w2 : World} {g a d : Nat} {l r : PT} {v : Int} {h : Bool} {t2 : PT} (hr : RepP W (.node g a d l r v h)) (hn : (PT.dom (.node g a d l r v h)).Nodup) (hB : Below w.heap.size w W) (q1 : RepP w2 t2) (q3 : t2.dom.Nodup) (q4 : ∀ y ∈ t2.dom, y ∈ r.dom ∨ W.heap.size ≤ y) (q5 : Kp r.dom W w2) :
    RepP (w2.setCell ⟨g, 3, none⟩ (.pointer t2.addr)) (.node g a d l t2 v h) ∧ (PT.dom (.node g a d l t2 v h)).Nodup ∧ (∀ y ∈ PT.dom (.node g a d l t2 v h), y ∈ PT.dom (.node g a d l r v h) ∨ w.heap.size ≤ y) ∧ Kp (PT.dom (.node g a d l r v h)) w (w2.setCell ⟨g, 3, none⟩ (.pointer t2.addr)) := by
  obtain ⟨⟨n1, n2⟩, nl, nr, hd⟩ := nodP hn
  have hgW := hr.lt g (by simp [PT.dom])
  have hsz := hB.size
  have hgk : g ∉ r.dom := by first | exact n1 | exact n2
  have hgo : g ∉ l.dom := by first | exact n1 | exact n2
  have hrow : w2.heap[g]? = W.heap[g]? := q5.block g hgW hgk
  have hoth : RepP W l := by first | exact hr.2.1 | exact hr.2.2
  have hok : ∀ x, x ∈ l.dom → x ∉ r.dom := by first | exact hd | exact fun x hx hx' => hd x hx' hx
  have hro : RepP w2 l := hoth.keep fun x hx => q5.block x (hoth.lt x hx) (hok x hx)
  have hgd : g ∉ t2.dom := fun hx => by rcases q4 g hx with h | h; exact hgk h; omega
  have hdis : ∀ x, x ∈ t2.dom → x ∉ l.dom := fun x hx hx' => by rcases q4 x hx with h | h; exact hok x hx' h; have := hoth.lt x hx'; omega
  refine ⟨⟨⟨hr.1.1, ?_⟩, (hro).far (q := ⟨g, 3, none⟩) hgo _, q1.far (q := ⟨g, 3, none⟩) hgd _⟩, ?_, fun y hy => ?_, ?_⟩
  · have := heap_setCell_same (hrow.trans hr.1.2) 3 (.pointer t2.addr)
    rw [this]; simp [cellsP]
  · simp only [PT.dom, List.nodup_cons, List.mem_append, not_or]
    exact ⟨⟨hgo, hgd⟩, List.nodup_append.2 ⟨nl, q3, fun x hx y hy e => hdis y hy (e ▸ hx)⟩⟩
  · simp only [PT.dom, List.mem_cons, List.mem_append] at hy ⊢
    rcases hy with hy | hy | hy
    · exact .inl (.inl hy)
    · exact .inl (.inr (.inl hy))
    · rcases q4 y hy with h | h
      · exact .inl (.inr (.inr h))
      · exact .inr (by omega)
  · exact ((Kp.of_below hB).step q5 (fun x hx => .inl (by simp [PT.dom, hx]))).setCell (p := ⟨g, 3, none⟩) (.inl (by simp [PT.dom])) _
theorem fork_l {w wq V : World} {n : PT} {ca ck a b : Nat} {v : Int} (h1 : Val ca ck) (h2 : Val a b) (hB : Below w.heap.size w wq) (hq : RepP wq n) (hn : n.dom.Nodup) (hv : RepP V n) (hB1 : Below wq.heap.size wq V)
    (hU : V.heap[wq.heap.size]? = some (.cells #[.int .u32 ca, .int .i64 ck, n.ptr, .pointer none, .int .i64 0, .bool false] 129 (0, 0))) :
    RepP ((V.setCell ⟨wq.heap.size, 3, none⟩ (.pointer (some ⟨V.heap.size, 0, none⟩))).alloc (.cells #[.int .u32 a, .int .i64 b, .pointer none, .pointer none, .int .i64 v, .bool true] 129)).drew (.node wq.heap.size ca ck n (.node V.heap.size a b .nil .nil v true) 0 false) ∧ (PT.dom (.node wq.heap.size ca ck n (.node V.heap.size a b .nil .nil v true) 0 false)).Nodup ∧ (∀ y ∈ PT.dom (.node wq.heap.size ca ck n (.node V.heap.size a b .nil .nil v true) 0 false), y ∈ n.dom ∨ w.heap.size ≤ y) ∧ Kp n.dom w ((V.setCell ⟨wq.heap.size, 3, none⟩ (.pointer (some ⟨V.heap.size, 0, none⟩))).alloc (.cells #[.int .u32 a, .int .i64 b, .pointer none, .pointer none, .int .i64 v, .bool true] 129)).drew := by
  have hsz := hB.size
  have hsz1 := hB1.size
  have hul := (Array.getElem?_eq_some_iff.1 hU).1
  have hs : (V.setCell ⟨wq.heap.size, 3, none⟩ (.pointer (some ⟨V.heap.size, 0, none⟩))).heap.size = V.heap.size := by simp [World.setCell]
  have hlt : ∀ x, x ∈ n.dom → x < wq.heap.size := hq.lt
  have hBW : Below wq.heap.size wq ((V.setCell ⟨wq.heap.size, 3, none⟩ (.pointer (some ⟨V.heap.size, 0, none⟩))).alloc (.cells #[.int .u32 a, .int .i64 b, .pointer none, .pointer none, .int .i64 v, .bool true] 129)).drew := ((hB1.setCell (p := ⟨wq.heap.size, 3, none⟩) (Nat.le_refl _) _).alloc (by rw [hs]; omega) _).drew
  refine ⟨⟨⟨h1, ?_⟩, hq.grow hBW, ⟨h2, ?_⟩, trivial, trivial⟩, ?_, fun y hy => ?_, Kp.of_below (hB.trans (hBW.mono hsz))⟩
  · refine (Below.heap_alloc _ _ _ (by rw [hs]; exact hul)).trans ?_
    have := heap_setCell_same hU 3 (.pointer (some ⟨V.heap.size, 0, none⟩))
    rw [this]; simp [cellsP, PT.addr]
  · have := heap_alloc_new (V.setCell ⟨wq.heap.size, 3, none⟩ (.pointer (some ⟨V.heap.size, 0, none⟩))) (.cells #[.int .u32 a, .int .i64 b, .pointer none, .pointer none, .int .i64 v, .bool true] 129)
    rw [hs] at this
    exact this
  · have e1 : wq.heap.size ∉ n.dom := fun hx => Nat.lt_irrefl _ (hlt _ hx)
    have e2 : V.heap.size ∉ n.dom := fun hx => by have := hlt _ hx; omega
    have e3 : wq.heap.size ≠ V.heap.size := by omega
    simp only [PT.dom, List.nodup_cons, List.mem_append, List.mem_cons, List.not_mem_nil, List.append_nil, List.nil_append, List.cons_append, or_false, false_or, not_or]
    exact ⟨⟨e1, e3⟩, List.nodup_append.2 ⟨hn, by simp, fun x hx y hy e => by simp at hy; subst hy; subst e; exact e2 hx⟩⟩
  · simp only [PT.dom, List.mem_append, List.mem_cons, List.not_mem_nil, List.append_nil, List.nil_append, List.cons_append, or_false, false_or] at hy
    rcases hy with hy | hy | hy
    · exact .inr (by omega)
    · exact .inl hy
    · exact .inr (by omega)
theorem fork_r {w wq V : World} {n : PT} {ca ck a b : Nat} {v : Int} (h1 : Val ca ck) (h2 : Val a b) (hB : Below w.heap.size w wq) (hq : RepP wq n) (hn : n.dom.Nodup) (hv : RepP V n) (hB1 : Below wq.heap.size wq V)
    (hU : V.heap[wq.heap.size]? = some (.cells #[.int .u32 ca, .int .i64 ck, .pointer none, n.ptr, .int .i64 0, .bool false] 129 (0, 0))) :
    RepP ((V.setCell ⟨wq.heap.size, 2, none⟩ (.pointer (some ⟨V.heap.size, 0, none⟩))).alloc (.cells #[.int .u32 a, .int .i64 b, .pointer none, .pointer none, .int .i64 v, .bool true] 129)).drew (.node wq.heap.size ca ck (.node V.heap.size a b .nil .nil v true) n 0 false) ∧ (PT.dom (.node wq.heap.size ca ck (.node V.heap.size a b .nil .nil v true) n 0 false)).Nodup ∧ (∀ y ∈ PT.dom (.node wq.heap.size ca ck (.node V.heap.size a b .nil .nil v true) n 0 false), y ∈ n.dom ∨ w.heap.size ≤ y) ∧ Kp n.dom w ((V.setCell ⟨wq.heap.size, 2, none⟩ (.pointer (some ⟨V.heap.size, 0, none⟩))).alloc (.cells #[.int .u32 a, .int .i64 b, .pointer none, .pointer none, .int .i64 v, .bool true] 129)).drew := by
  have hsz := hB.size
  have hsz1 := hB1.size
  have hul := (Array.getElem?_eq_some_iff.1 hU).1
  have hs : (V.setCell ⟨wq.heap.size, 2, none⟩ (.pointer (some ⟨V.heap.size, 0, none⟩))).heap.size = V.heap.size := by simp [World.setCell]
  have hlt : ∀ x, x ∈ n.dom → x < wq.heap.size := hq.lt
  have hBW : Below wq.heap.size wq ((V.setCell ⟨wq.heap.size, 2, none⟩ (.pointer (some ⟨V.heap.size, 0, none⟩))).alloc (.cells #[.int .u32 a, .int .i64 b, .pointer none, .pointer none, .int .i64 v, .bool true] 129)).drew := ((hB1.setCell (p := ⟨wq.heap.size, 2, none⟩) (Nat.le_refl _) _).alloc (by rw [hs]; omega) _).drew
  refine ⟨⟨⟨h1, ?_⟩, ⟨⟨h2, ?_⟩, trivial, trivial⟩, hq.grow hBW⟩, ?_, fun y hy => ?_, Kp.of_below (hB.trans (hBW.mono hsz))⟩
  · refine (Below.heap_alloc _ _ _ (by rw [hs]; exact hul)).trans ?_
    have := heap_setCell_same hU 2 (.pointer (some ⟨V.heap.size, 0, none⟩))
    rw [this]; simp [cellsP, PT.addr]
  · have := heap_alloc_new (V.setCell ⟨wq.heap.size, 2, none⟩ (.pointer (some ⟨V.heap.size, 0, none⟩))) (.cells #[.int .u32 a, .int .i64 b, .pointer none, .pointer none, .int .i64 v, .bool true] 129)
    rw [hs] at this
    exact this
  · have e1 : wq.heap.size ∉ n.dom := fun hx => Nat.lt_irrefl _ (hlt _ hx)
    have e2 : V.heap.size ∉ n.dom := fun hx => by have := hlt _ hx; omega
    have e3 : wq.heap.size ≠ V.heap.size := by omega
    simp only [PT.dom, List.nodup_cons, List.mem_append, List.mem_cons, List.not_mem_nil, List.append_nil, List.nil_append, List.cons_append, or_false, false_or, not_or]
    exact ⟨⟨e3, e1⟩, ⟨e2, hn⟩⟩
  · simp only [PT.dom, List.mem_append, List.mem_cons, List.not_mem_nil, List.append_nil, List.nil_append, List.cons_append, or_false, false_or] at hy
    rcases hy with hy | hy | hy
    · exact .inr (by omega)
    · exact .inr (by omega)
    · exact .inl hy
def CutC (w : World) (t : PT) (a b ca ck : Nat) (p : Value) (wx : World) : Prop :=
  ∃ k, p = .pointer (some ⟨k, 0, none⟩) ∧ w.heap.size < k ∧ wx.heap[k]? = some (.cells #[.int .u32 ca, .int .i64 ck] 25 (0, 0)) ∧ wx.heap[w.heap.size]? = some (.cells #[.int .u32 a, .int .i64 b] 25 (0, 0)) ∧ RepP wx t ∧ Below w.heap.size w wx
theorem cutC_1 {w w0 w2 : World} {t : PT} {a b ca ck : Nat} (hb0 : Below w.heap.size w w0) (hs0 : w.heap.size < w0.heap.size) (hx0 : w0.heap[w.heap.size]? = some (.cells #[.int .u32 a, .int .i64 b] 25 (0, 0))) (hr0 : RepP w0 t) (hb2 : Below w0.drew.heap.size w0.drew w2) :
    CutC w t a b ca ck (.pointer (some ⟨w2.heap.size, 0, none⟩)) (w2.alloc (.cells #[.int .u32 ca, .int .i64 ck] 25)) := by
  have hs2 : w0.heap.size ≤ w2.heap.size := hb2.size
  have hB : Below w0.heap.size w0 (w2.alloc (.cells #[.int .u32 ca, .int .i64 ck] 25)) := Below.alloc ((Below.refl w0.heap.size w0).drew.trans hb2) hs2 _
  exact ⟨_, rfl, by omega, heap_alloc_new w2 _, (hB.block _ hs0).trans hx0, hr0.grow hB, hb0.trans (hB.mono (by omega))⟩
theorem cutC_2 {w w0 w2 : World} {t : PT} {a b ca ck : Nat} (hb0 : Below w.heap.size w w0) (hs0 : w.heap.size < w0.heap.size) (hx0 : w0.heap[w.heap.size]? = some (.cells #[.int .u32 a, .int .i64 b] 25 (0, 0))) (hr0 : RepP w0 t)
    (hb2 : Below (w0.alloc (.cells #[.int .u32 0, .int .i64 0] 25)).drew.heap.size (w0.alloc (.cells #[.int .u32 0, .int .i64 0] 25)).drew w2) :
    CutC w t a b ca ck (.pointer (some ⟨w0.heap.size, 0, none⟩)) ((w2.setCell ⟨w0.heap.size, 0, none⟩ (.int .u32 ca)).setCell ⟨w0.heap.size, 1, none⟩ (.int .i64 ck)) := by
  have hrow : w2.heap[w0.heap.size]? = some (.cells #[.int .u32 0, .int .i64 0] 25 (0, 0)) := (hb2.block _ (by simp)).trans (heap_alloc_new w0 _)
  have hB : Below w0.heap.size w0 ((w2.setCell ⟨w0.heap.size, 0, none⟩ (.int .u32 ca)).setCell ⟨w0.heap.size, 1, none⟩ (.int .i64 ck)) :=
    ((((Below.refl w0.heap.size w0).alloc (Nat.le_refl _) _).drew.trans (hb2.mono (by simp))).setCell (p := ⟨w0.heap.size, 0, none⟩) (Nat.le_refl _) _).setCell (p := ⟨w0.heap.size, 1, none⟩) (Nat.le_refl _) _
  refine ⟨_, rfl, hs0, ?_, (hB.block _ hs0).trans hx0, hr0.grow hB, hb0.trans (hB.mono (by omega))⟩
  have h1 := heap_setCell_same (heap_setCell_same hrow 0 (.int .u32 ca)) 1 (.int .i64 ck)
  rw [h1]; simp
set_option maxHeartbeats 4000000 in
set_option maxRecDepth 100000 in
theorem with_node (a b : Nat) (v : Int) (g na nd : Nat) (l r : PT) (v0 : Int) (h : Bool) (w : World) (hV : Val a b) (hr : RepP w (.node g na nd l r v0 h)) (hn : (PT.dom (.node g na nd l r v0 h)).Nodup)
    (ihl : ∀ W, RepP W l → l.dom.Nodup → Calls Tryd.prog 90 #[.pointer l.addr, .agg #[.int .u32 a, .int .i64 b], .int .i64 v] W (WithPost l (path a b) v W))
    (ihr : ∀ W, RepP W r → r.dom.Nodup → Calls Tryd.prog 90 #[.pointer r.addr, .agg #[.int .u32 a, .int .i64 b], .int .i64 v] W (WithPost r (path a b) v W)) :
    Calls Tryd.prog 90 #[.pointer (some ⟨g, 0, none⟩), .agg #[.int .u32 a, .int .i64 b], .int .i64 v] w (WithPost (.node g na nd l r v0 h) (path a b) v w) := by
  have IHL := Lib.hid ihl
  have IHR := Lib.hid ihr
  clear ihl ihr
  have HR := Lib.hid hr
  have HN := Lib.hid hn
  have HV := Lib.hid hV
  have HVN := Lib.hid hr.1.1
  have hg := hr.lt g (by simp [PT.dom])
  have HB0 := Lib.hid ((Below.refl w.heap.size w).alloc (Nat.le_refl _) (.cells #[.int .u32 a, .int .i64 b] 25))
  have HX0 := Lib.hid (heap_alloc_new w (.cells #[.int .u32 a, .int .i64 b] 25))
  have HC := Lib.hid (fun W => common_any na nd a b W HVN.out HV.out)
  generalize hca : comA na nd a b = ca at HC
  generalize hck : comK na nd a b = ck at HC
  have HCA := Lib.hid hca
  have HCK := Lib.hid hck
  clear hr hn hV hca hck
  go_enter Tryd.func90, Tryd.ntmps90
  go_upto_region 3 with (fail)
  have HR0 := Lib.hid (HR.out.grow HB0.out)
  have hs0 : w.heap.size < (w.alloc (.cells #[.int .u32 a, .int .i64 b] 25)).heap.size := by simp
  generalize w.alloc (.cells #[.int .u32 a, .int .i64 b] 25) = w0 at HB0 HX0 HR0 hs0 ⊢
  go_cut [7] from 16 to 22 (fun p wx => CutC w (.node g na nd l r v0 h) a b ca ck p wx)
  case first =>
    obtain ⟨c0, c1, _, _, _, _⟩ := cell_nodeP HR0.out
    have hg0 := HR0.out.lt g (by simp [PT.dom])
    have b0 : w0.cell? ⟨w.heap.size, 0, none⟩ = some (.int .u32 a) := cell_of_row _ w.heap.size 0 _ 25 (0, 0) HX0.out
    have b1 : w0.cell? ⟨w.heap.size, 1, none⟩ = some (.int .i64 b) := cell_of_row _ w.heap.size 1 _ 25 (0, 0) HX0.out
    go_region_held3 (fun w' => w'.cell? ⟨g, 0, none⟩ = some (.int .u32 na) ∧ w'.cell? ⟨g, 1, none⟩ = some (.int .i64 nd) ∧ w'.cell? ⟨w.heap.size, 0, none⟩ = some (.int .u32 a) ∧ w'.cell? ⟨w.heap.size, 1, none⟩ = some (.int .i64 b))
      (first
        | go_keep
        | (refine ⟨?_, ?_, ?_, ?_⟩ <;> first | assumption | go_keep | go_simp))
      (first
        | ((with_reducible refine (HC.out (World.drew (World.alloc w0 _))).mono ?_); rintro e w2 ⟨rfl, hb2⟩
           have q0 : w2.cell? ⟨g, 0, none⟩ = some (.int .u32 na) := (hb2.cell (p := ⟨g, 0, none⟩) (by simp; omega)).trans (by go_simp)
           have q1 : w2.cell? ⟨g, 1, none⟩ = some (.int .i64 nd) := (hb2.cell (p := ⟨g, 1, none⟩) (by simp; omega)).trans (by go_simp)
           have q2 : w2.cell? ⟨w.heap.size, 0, none⟩ = some (.int .u32 a) := (hb2.cell (p := ⟨w.heap.size, 0, none⟩) (by simp; omega)).trans (by go_simp)
           have q3 : w2.cell? ⟨w.heap.size, 1, none⟩ = some (.int .i64 b) := (hb2.cell (p := ⟨w.heap.size, 1, none⟩) (by simp; omega)).trans (by go_simp)
           have e0 : w2.cell? ⟨w0.heap.size, 0, none⟩ = some (.int .u32 0) := (hb2.cell (p := ⟨w0.heap.size, 0, none⟩) (by simp)).trans (by go_simp)
           have e1 : w2.cell? ⟨w0.heap.size, 1, none⟩ = some (.int .i64 0) := (hb2.cell (p := ⟨w0.heap.size, 1, none⟩) (by simp)).trans (by go_simp)
           have e2 : w2.frozen? ⟨w0.heap.size, 0, none⟩ = false := (hb2.frozen (p := ⟨w0.heap.size, 0, none⟩) (by simp)).trans (by go_simp)
           have e3 : w2.frozen? ⟨w0.heap.size, 1, none⟩ = false := (hb2.frozen (p := ⟨w0.heap.size, 1, none⟩) (by simp)).trans (by go_simp)
           have HB2 := Lib.hid hb2
           clear hb2)
        | ((with_reducible refine (HC.out _).mono ?_); rintro e w2 ⟨rfl, hb2⟩
           have q0 : w2.cell? ⟨g, 0, none⟩ = some (.int .u32 na) := (hb2.cell (p := ⟨g, 0, none⟩) (by simp; omega)).trans (by go_simp)
           have q1 : w2.cell? ⟨g, 1, none⟩ = some (.int .i64 nd) := (hb2.cell (p := ⟨g, 1, none⟩) (by simp; omega)).trans (by go_simp)
           have q2 : w2.cell? ⟨w.heap.size, 0, none⟩ = some (.int .u32 a) := (hb2.cell (p := ⟨w.heap.size, 0, none⟩) (by simp; omega)).trans (by go_simp)
           have q3 : w2.cell? ⟨w.heap.size, 1, none⟩ = some (.int .i64 b) := (hb2.cell (p := ⟨w.heap.size, 1, none⟩) (by simp; omega)).trans (by go_simp)
           have HB2 := Lib.hid hb2
           clear hb2)
        | fail)
    all_goals
      go_wp2_with fail
      go_meet
      first
        | exact cutC_1 HB0.out hs0 HX0.out HR0.out HB2.out
        | exact cutC_2 HB0.out hs0 HX0.out HR0.out HB2.out
  case rest =>
    obtain ⟨k, rfl, hk, hkx, hbx, hrx, hBx⟩ := hcut
    have HRX := Lib.hid hrx
    have HBX := Lib.hid hBx
    have HKX := Lib.hid hkx
    have HXX := Lib.hid hbx
    clear hrx hBx HB0 HX0 HR0 HC
    obtain ⟨c0, c1, c2, c3, c4, c5⟩ := cell_nodeP HRX.out
    have b0 : wc.cell? ⟨w.heap.size, 0, none⟩ = some (.int .u32 a) := cell_of_row _ w.heap.size 0 _ 25 (0, 0) hbx
    have b1 : wc.cell? ⟨w.heap.size, 1, none⟩ = some (.int .i64 b) := cell_of_row _ w.heap.size 1 _ 25 (0, 0) hbx
    have k0 : wc.cell? ⟨k, 0, none⟩ = some (.int .u32 ca) := cell_of_row _ k 0 _ 25 (0, 0) hkx
    have k1 : wc.cell? ⟨k, 1, none⟩ = some (.int .i64 ck) := cell_of_row _ k 1 _ 25 (0, 0) hkx
    have hkl := (Array.getElem?_eq_some_iff.1 hkx).1
    have hgl := HRX.out.lt g (by simp [PT.dom])
    clear hbx hkx hs0
    obtain ⟨HVC, HPC⟩ : Hid (Val ca ck) ∧ Hid (path ca ck = lcp (path na nd) (path a b)) := by
      have := com_path HVN.out HV.out
      rw [HCA.out, HCK.out] at this
      exact ⟨Lib.hid this.1, Lib.hid this.2⟩
    clear HCA HCK
    go_wp2_with fail
    have f4 := frozenP HRX.out 4
    have f5 := frozenP HRX.out 5
    have f2 := frozenP HRX.out 2
    have f3 := frozenP HRX.out 3
    by_cases e1 : ca = na ∧ ck = nd
    · by_cases e2 : na = a ∧ nd = b
      · obtain ⟨rfl, rfl⟩ := e1
        obtain ⟨rfl, rfl⟩ := e2
        go_quiet (fail)
        go_wp2_with fail
        go_ret
        exact ⟨.node g ca ck l r v true, rfl, (HRX.out.same (w' := wc.drewN nq) rfl).put HN.out v true, (wth_same _ _ _ _ _).symm, HN.out, fun y hy => .inl hy,
          (((Kp.of_below HBX.out).drewN nq).setCell (p := ⟨g, 4, none⟩) (.inl (by simp [PT.dom])) _).setCell (p := ⟨g, 5, none⟩) (.inl (by simp [PT.dom])) _⟩
      · obtain ⟨rfl, rfl⟩ := e1
        have HE2 := Lib.hid e2
        have hne : (((ca : Int) == (a : Int)) && ((ck : Int) == (b : Int))) = false := by
          rw [Bool.eq_false_iff]
          intro k
          rw [Bool.and_eq_true, beq_iff_eq, beq_iff_eq] at k
          exact e2 ⟨by omega, by omega⟩
        have hne2 : ¬ ((ca : Int) = (a : Int) ∧ (ck : Int) = (b : Int)) := fun k => e2 ⟨by omega, by omega⟩
        clear e2
        have hp : path ca ck <+: path a b := lcp_eq_left.1 HPC.out.symm
        have hpn : path ca ck ≠ path a b := fun k => HE2.out (path_same HVC.out HV.out k)
        have hlt : ck < b := by
          have hl := hp.length_le
          rw [path_length, path_length] at hl
          rcases Nat.eq_or_lt_of_le hl with h1 | h1
          · exact absurd (hp.eq_of_length (by rw [path_length, path_length]; exact h1)) hpn
          · exact h1
        have hso := sideOf_path (p := path ca ck) (a := a) (d := b) (by rw [path_length]; exact hlt)
        rw [path_length] at hso
        have hb32 := HV.out.2.1
        have ha := HV.out.1
        have hd31 : ck ≤ 31 := by omega
        have HNE := Lib.hid hpn
        clear hp hpn
        go_quiet (fail)
        go_wp2_with fail
        go_quiet (fail)
        go_wp2_with fail
        cases hbit : bitB a ck
        · rw [hbit] at hso
          have HSO := Lib.hid hso
          have Hb := Lib.hid hbit
          clear hso hbit
          refine (side_f g ck a _ ha hd31 (by simpa using c1) Hb.out).mono ?_
          rintro e w1 ⟨rfl, rfl⟩
          go_wp2_with fail
          go_region_with (go_at_call 90; (refine (IHL.out _ ?_ ?_).mono ?_); exact (HRX.out.2.1).keep fun _ _ => rfl; exact (nodP HN.out).2.1; rintro e w2 ⟨t2, rfl, q1, q2, q3, q4, q5⟩; have hgb : w2.heap[g]? = some (.cells (cellsP ca ck l.ptr r.ptr v0 h) 129 (0, 0)) := (q5.block g hgl (nodP HN.out).1.1).trans HRX.out.1.2; have d2 : w2.cell? ⟨g, 2, none⟩ = some l.ptr := cell_of_row w2 g 2 _ 129 (0, 0) hgb; have e2 : w2.frozen? ⟨g, 2, none⟩ = false := frozen_of_row hgb 2; have hg2 : g < w2.heap.size := (Array.getElem?_eq_some_iff.1 hgb).1; have Q1 := Lib.hid q1; have Q2 := Lib.hid q2; have Q3 := Lib.hid q3; have Q4 := Lib.hid q4; have Q5 := Lib.hid q5; clear hgb q1 q2 q3 q4 q5)
          all_goals
            have CL := Lib.hid (with_close_l (w := w) (W := wc.drewN _) (HRX.out.same (w' := wc.drewN _) rfl) HN.out (below_drewN HBX.out _) Q1.out Q3.out Q4.out Q5.out)
            generalize w2.setCell ⟨g, 2, none⟩ (.pointer t2.addr) = wz at CL ⊢
            go_wp2_with fail
            go_ret
            refine ⟨.node g ca ck t2 r v0 h, rfl, CL.out.1, ?_, CL.out.2.1, CL.out.2.2.1, CL.out.2.2.2⟩
            rw [show PT.bt (.node g ca ck l r v0 h) = .node (path ca ck) l.bt r.bt (if h then some v0 else none) from rfl, wth_down _ _ _ _ HPC.out.symm HNE.out, HSO.out]
            simp only [PT.bt, Q2.out]
            rfl
        · rw [hbit] at hso
          have HSO := Lib.hid hso
          have Hb := Lib.hid hbit
          clear hso hbit
          refine (side_t g ck a _ ha hd31 (by simpa using c1) Hb.out).mono ?_
          rintro e w1 ⟨rfl, rfl⟩
          go_wp2_with fail
          go_region_with (go_at_call 90; (refine (IHR.out _ ?_ ?_).mono ?_); exact (HRX.out.2.2).keep fun _ _ => rfl; exact (nodP HN.out).2.2.1; rintro e w2 ⟨t2, rfl, q1, q2, q3, q4, q5⟩; have hgb : w2.heap[g]? = some (.cells (cellsP ca ck l.ptr r.ptr v0 h) 129 (0, 0)) := (q5.block g hgl (nodP HN.out).1.2).trans HRX.out.1.2; have d2 : w2.cell? ⟨g, 3, none⟩ = some r.ptr := cell_of_row w2 g 3 _ 129 (0, 0) hgb; have e2 : w2.frozen? ⟨g, 3, none⟩ = false := frozen_of_row hgb 3; have hg2 : g < w2.heap.size := (Array.getElem?_eq_some_iff.1 hgb).1; have Q1 := Lib.hid q1; have Q2 := Lib.hid q2; have Q3 := Lib.hid q3; have Q4 := Lib.hid q4; have Q5 := Lib.hid q5; clear hgb q1 q2 q3 q4 q5)
          all_goals
            have CL := Lib.hid (with_close_r (w := w) (W := wc.drewN _) (HRX.out.same (w' := wc.drewN _) rfl) HN.out (below_drewN HBX.out _) Q1.out Q3.out Q4.out Q5.out)
            generalize w2.setCell ⟨g, 3, none⟩ (.pointer t2.addr) = wz at CL ⊢
            go_wp2_with fail
            go_ret
            refine ⟨.node g ca ck l t2 v0 h, rfl, CL.out.1, ?_, CL.out.2.1, CL.out.2.2.1, CL.out.2.2.2⟩
            rw [show PT.bt (.node g ca ck l r v0 h) = .node (path ca ck) l.bt r.bt (if h then some v0 else none) from rfl, wth_down _ _ _ _ HPC.out.symm HNE.out, HSO.out]
            simp only [PT.bt, Q2.out]
            rfl
    · have HE1 := Lib.hid e1
      have hne : (((ca : Int) == (na : Int)) && ((ck : Int) == (nd : Int))) = false := by
        rw [Bool.eq_false_iff]
        intro k
        rw [Bool.and_eq_true, beq_iff_eq, beq_iff_eq] at k
        exact e1 ⟨by omega, by omega⟩
      have hne2 : ¬ ((ca : Int) = (na : Int) ∧ (ck : Int) = (nd : Int)) := fun k => e1 ⟨by omega, by omega⟩
      clear e1
      have hp : path ca ck <+: path na nd := by rw [HPC.out]; exact lcp_left _ _
      have hpn : path ca ck ≠ path na nd := fun k => HE1.out (path_same HVC.out HVN.out k)
      have hlt : ck < nd := by
        have hl := hp.length_le
        rw [path_length, path_length] at hl
        rcases Nat.eq_or_lt_of_le hl with h1 | h1
        · exact absurd (hp.eq_of_length (by rw [path_length, path_length]; exact h1)) hpn
        · exact h1
      have hso := sideOf_path (p := path ca ck) (a := na) (d := nd) (by rw [path_length]; exact hlt)
      rw [path_length] at hso
      have hnd32 := HVN.out.2.1
      have hna := HVN.out.1
      have ha := HV.out.1
      have hd31 : ck ≤ 31 := by omega
      have HNE := Lib.hid hpn
      clear hp hpn
      go_quiet (fail)
      go_wp2_with fail
      go_quiet (fail)
      generalize hwq : World.drewN (World.drewN wc _) _ = wq
      have hh : wq.heap = wc.heap := by rw [← hwq]; rfl
      have HRQ := Lib.hid (HRX.out.same hh)
      have HBQ := Lib.hid (show Below w.heap.size w wq by rw [← hwq]; exact below_drewN (below_drewN HBX.out _) _)
      have HXQ := Lib.hid (show wq.heap[w.heap.size]? = some (.cells #[.int .u32 a, .int .i64 b] 25 (0, 0)) by rw [hh]; exact HXX.out)
      have HKQ := Lib.hid (show wq.heap[k]? = some (.cells #[.int .u32 ca, .int .i64 ck] 25 (0, 0)) by rw [hh]; exact HKX.out)
      clear hwq hh c0 c1 c2 c3 c4 c5 b0 b1 k0 k1 hkl hgl f2 f3 f4 f5 HRX HBX HXX HKX hne hne2
      have tmp := HRQ.out
      obtain ⟨c0, c1, c2, c3, c4, c5⟩ := cell_nodeP tmp
      have hgl := tmp.lt g (by simp [PT.dom])
      clear tmp
      have b0 : wq.cell? ⟨w.heap.size, 0, none⟩ = some (.int .u32 a) := cell_of_row _ w.heap.size 0 _ 25 (0, 0) HXQ.out
      have b1 : wq.cell? ⟨w.heap.size, 1, none⟩ = some (.int .i64 b) := cell_of_row _ w.heap.size 1 _ 25 (0, 0) HXQ.out
      have k0 : wq.cell? ⟨k, 0, none⟩ = some (.int .u32 ca) := cell_of_row _ k 0 _ 25 (0, 0) HKQ.out
      have k1 : wq.cell? ⟨k, 1, none⟩ = some (.int .i64 ck) := cell_of_row _ k 1 _ 25 (0, 0) HKQ.out
      have hkl := (Array.getElem?_eq_some_iff.1 HKQ.out).1
      have hbl := (Array.getElem?_eq_some_iff.1 HXQ.out).1
      go_wp2_with fail
      cases hbit : bitB na ck
      · rw [hbit] at hso
        have HSO := Lib.hid hso
        have Hb := Lib.hid hbit
        clear hso hbit
        refine still_tail 12 (by kernel_rfl) (by kernel_rfl) ?_
        simp only [List.take_succ_cons, List.take_zero, List.drop_succ_cons, List.drop_zero]
        iterate 7 still_step
        still_call (side_f wq.heap.size ck na _ hna hd31 (by go_simp) Hb.out)
        iterate 4 still_step
        refine wpStill_nil ?_
        by_cases e3 : ca = a ∧ ck = b
        · obtain ⟨rfl, rfl⟩ := e3
          go_wp2_with fail
          go_ret
          have hB1 : Below wq.heap.size wq (wq.alloc (.cells #[.int .u32 ca, .int .i64 ck, .pointer (some ⟨g, 0, none⟩), .pointer none, .int .i64 v, .bool true] 129)).drew := ((Below.refl _ _).alloc (Nat.le_refl _) _).drew
          have hq := HBQ.out.size
          refine ⟨.node wq.heap.size ca ck (.node g na nd l r v0 h) .nil v true, rfl, ⟨⟨HVC.out, heap_alloc_new wq _⟩, HRQ.out.grow hB1, trivial⟩, ?_, ?_, fun y hy => ?_, Kp.of_below (HBQ.out.trans (hB1.mono hq))⟩
          · rw [show PT.bt (.node g na nd l r v0 h) = .node (path na nd) l.bt r.bt (if h then some v0 else none) from rfl, wth_up _ _ _ _ (fun k => HNE.out (HPC.out.trans k)) HPC.out.symm, HSO.out]
            rfl
          · have hg' : wq.heap.size ∉ PT.dom (.node g na nd l r v0 h) := fun hx => Nat.lt_irrefl _ (HRQ.out.lt _ hx)
            rw [show PT.dom (.node wq.heap.size ca ck (.node g na nd l r v0 h) .nil v true) = wq.heap.size :: (PT.dom (.node g na nd l r v0 h) ++ []) from rfl, List.append_nil]
            exact List.nodup_cons.2 ⟨hg', HN.out⟩
          · simp only [PT.dom, List.mem_cons, List.mem_append, List.not_mem_nil, or_false, false_or] at hy ⊢
            rcases hy with hy | hy
            · exact .inr (by omega)
            · exact .inl hy
        · have HE3 := Lib.hid e3
          have hme : (((ca : Int) == (a : Int)) && ((ck : Int) == (b : Int))) = false := by
            rw [Bool.eq_false_iff]
            intro k
            rw [Bool.and_eq_true, beq_iff_eq, beq_iff_eq] at k
            exact e3 ⟨by omega, by omega⟩
          have hme2 : ¬ ((ca : Int) = (a : Int) ∧ (ck : Int) = (b : Int)) := fun k => e3 ⟨by omega, by omega⟩
          have hp : path ca ck <+: path a b := by rw [HPC.out]; exact lcp_right _ _
          have hpx : path ca ck ≠ path a b := fun k => e3 (path_same HVC.out HV.out k)
          have hlt2 : ck < b := by
            have hl := hp.length_le
            rw [path_length, path_length] at hl
            rcases Nat.eq_or_lt_of_le hl with h1 | h1
            · exact absurd (hp.eq_of_length (by rw [path_length, path_length]; exact h1)) hpx
            · exact h1
          have hso2 := sideOf_path (p := path ca ck) (a := a) (d := b) (by rw [path_length]; exact hlt2)
          rw [path_length] at hso2
          have hpart := lcp_part (p := path na nd) (x := path a b) (fun k => HNE.out (HPC.out.trans k)) (fun k => hpx (HPC.out.trans k))
          rw [← HPC.out, HSO.out, hso2] at hpart
          have hb2 : bitB a ck = true := by cases hh : bitB a ck <;> rw [hh] at hpart <;> first | rfl | cases hpart
          have Hb2 := Lib.hid hb2
          have HPX := Lib.hid hpx
          clear e3 hp hpx hso2 hpart hb2
          go_upto_region 13 with (fail)
          have hB1 : Below wq.heap.size wq (wq.alloc (.cells #[.int .u32 ca, .int .i64 ck, .pointer (some ⟨g, 0, none⟩), .pointer none, .int .i64 0, .bool false] 129)).drew := ((Below.refl _ _).alloc (Nat.le_refl _) _).drew
          have HU := Lib.hid (show ((wq.alloc (.cells #[.int .u32 ca, .int .i64 ck, .pointer (some ⟨g, 0, none⟩), .pointer none, .int .i64 0, .bool false] 129)).drew).heap[wq.heap.size]? = some (.cells #[.int .u32 ca, .int .i64 ck, .pointer (some ⟨g, 0, none⟩), .pointer none, .int .i64 0, .bool false] 129 (0, 0)) from heap_alloc_new wq _)
          have HB1 := Lib.hid hB1
          have HRV := Lib.hid (HRQ.out.grow hB1)
          have HQS := Lib.hid HBQ.out.size
          generalize (wq.alloc (.cells #[.int .u32 ca, .int .i64 ck, .pointer (some ⟨g, 0, none⟩), .pointer none, .int .i64 0, .bool false] 129)).drew = V at HB1 HU HRV ⊢
          have HXV := Lib.hid ((HB1.out.block _ hbl).trans HXQ.out)
          have HKV := Lib.hid ((HB1.out.block _ hkl).trans HKQ.out)
          clear hB1 c0 c1 c2 c3 c4 c5 b0 b1 k0 k1
          have b0 : V.cell? ⟨w.heap.size, 0, none⟩ = some (.int .u32 a) := cell_of_row _ w.heap.size 0 _ 25 (0, 0) HXV.out
          have b1 : V.cell? ⟨w.heap.size, 1, none⟩ = some (.int .i64 b) := cell_of_row _ w.heap.size 1 _ 25 (0, 0) HXV.out
          have k0 : V.cell? ⟨k, 0, none⟩ = some (.int .u32 ca) := cell_of_row _ k 0 _ 25 (0, 0) HKV.out
          have k1 : V.cell? ⟨k, 1, none⟩ = some (.int .i64 ck) := cell_of_row _ k 1 _ 25 (0, 0) HKV.out
          have m1 : V.cell? ⟨wq.heap.size, 1, none⟩ = some (.int .i64 ck) := cell_of_row _ wq.heap.size 1 _ 129 (0, 0) HU.out
          have m2 : V.cell? ⟨wq.heap.size, 3, none⟩ = some (.pointer none) := cell_of_row _ wq.heap.size 3 _ 129 (0, 0) HU.out
          have m3 : V.frozen? ⟨wq.heap.size, 3, none⟩ = false := frozen_of_row HU.out 3
          have hul := (Array.getElem?_eq_some_iff.1 HU.out).1
          have hbl2 := (Array.getElem?_eq_some_iff.1 HXV.out).1
          have ha := HV.out.1
          go_wp2_with fail
          go_region_with (go_at_call 94; (refine (side_t wq.heap.size ck a _ ha hd31 (by go_simp) Hb2.out).mono ?_); rintro e w9 ⟨rfl, rfl⟩)
          all_goals
            go_wp2_with fail
            go_ret
            have FK := fork_l (ca := ca) (ck := ck) (v := v) HVC.out HV.out HBQ.out HRQ.out HN.out HRV.out HB1.out HU.out
            refine ⟨.node wq.heap.size ca ck (.node g na nd l r v0 h) (.node V.heap.size a b .nil .nil v true) 0 false, rfl, FK.1, ?_, FK.2.1, FK.2.2.1, FK.2.2.2⟩
            rw [show PT.bt (.node g na nd l r v0 h) = .node (path na nd) l.bt r.bt (if h then some v0 else none) from rfl, wth_fork _ _ _ _ HPC.out.symm HNE.out HPX.out, HSO.out]
            rfl
      · rw [hbit] at hso
        have HSO := Lib.hid hso
        have Hb := Lib.hid hbit
        clear hso hbit
        refine still_tail 12 (by kernel_rfl) (by kernel_rfl) ?_
        simp only [List.take_succ_cons, List.take_zero, List.drop_succ_cons, List.drop_zero]
        iterate 7 still_step
        still_call (side_t wq.heap.size ck na _ hna hd31 (by go_simp) Hb.out)
        iterate 4 still_step
        refine wpStill_nil ?_
        by_cases e3 : ca = a ∧ ck = b
        · obtain ⟨rfl, rfl⟩ := e3
          go_wp2_with fail
          go_ret
          have hB1 : Below wq.heap.size wq (wq.alloc (.cells #[.int .u32 ca, .int .i64 ck, .pointer none, .pointer (some ⟨g, 0, none⟩), .int .i64 v, .bool true] 129)).drew := ((Below.refl _ _).alloc (Nat.le_refl _) _).drew
          have hq := HBQ.out.size
          refine ⟨.node wq.heap.size ca ck .nil (.node g na nd l r v0 h) v true, rfl, ⟨⟨HVC.out, heap_alloc_new wq _⟩, trivial, HRQ.out.grow hB1⟩, ?_, ?_, fun y hy => ?_, Kp.of_below (HBQ.out.trans (hB1.mono hq))⟩
          · rw [show PT.bt (.node g na nd l r v0 h) = .node (path na nd) l.bt r.bt (if h then some v0 else none) from rfl, wth_up _ _ _ _ (fun k => HNE.out (HPC.out.trans k)) HPC.out.symm, HSO.out]
            rfl
          · have hg' : wq.heap.size ∉ PT.dom (.node g na nd l r v0 h) := fun hx => Nat.lt_irrefl _ (HRQ.out.lt _ hx)
            rw [show PT.dom (.node wq.heap.size ca ck .nil (.node g na nd l r v0 h) v true) = wq.heap.size :: ([] ++ PT.dom (.node g na nd l r v0 h)) from rfl, List.nil_append]
            exact List.nodup_cons.2 ⟨hg', HN.out⟩
          · simp only [PT.dom, List.mem_cons, List.mem_append, List.not_mem_nil, or_false, false_or] at hy ⊢
            rcases hy with hy | hy
            · exact .inr (by omega)
            · exact .inl hy
        · have HE3 := Lib.hid e3
          have hme : (((ca : Int) == (a : Int)) && ((ck : Int) == (b : Int))) = false := by
            rw [Bool.eq_false_iff]
            intro k
            rw [Bool.and_eq_true, beq_iff_eq, beq_iff_eq] at k
            exact e3 ⟨by omega, by omega⟩
          have hme2 : ¬ ((ca : Int) = (a : Int) ∧ (ck : Int) = (b : Int)) := fun k => e3 ⟨by omega, by omega⟩
          have hp : path ca ck <+: path a b := by rw [HPC.out]; exact lcp_right _ _
          have hpx : path ca ck ≠ path a b := fun k => e3 (path_same HVC.out HV.out k)
          have hlt2 : ck < b := by
            have hl := hp.length_le
            rw [path_length, path_length] at hl
            rcases Nat.eq_or_lt_of_le hl with h1 | h1
            · exact absurd (hp.eq_of_length (by rw [path_length, path_length]; exact h1)) hpx
            · exact h1
          have hso2 := sideOf_path (p := path ca ck) (a := a) (d := b) (by rw [path_length]; exact hlt2)
          rw [path_length] at hso2
          have hpart := lcp_part (p := path na nd) (x := path a b) (fun k => HNE.out (HPC.out.trans k)) (fun k => hpx (HPC.out.trans k))
          rw [← HPC.out, HSO.out, hso2] at hpart
          have hb2 : bitB a ck = false := by cases hh : bitB a ck <;> rw [hh] at hpart <;> first | rfl | cases hpart
          have Hb2 := Lib.hid hb2
          have HPX := Lib.hid hpx
          clear e3 hp hpx hso2 hpart hb2
          go_upto_region 13 with (fail)
          have hB1 : Below wq.heap.size wq (wq.alloc (.cells #[.int .u32 ca, .int .i64 ck, .pointer none, .pointer (some ⟨g, 0, none⟩), .int .i64 0, .bool false] 129)).drew := ((Below.refl _ _).alloc (Nat.le_refl _) _).drew
          have HU := Lib.hid (show ((wq.alloc (.cells #[.int .u32 ca, .int .i64 ck, .pointer none, .pointer (some ⟨g, 0, none⟩), .int .i64 0, .bool false] 129)).drew).heap[wq.heap.size]? = some (.cells #[.int .u32 ca, .int .i64 ck, .pointer none, .pointer (some ⟨g, 0, none⟩), .int .i64 0, .bool false] 129 (0, 0)) from heap_alloc_new wq _)
          have HB1 := Lib.hid hB1
          have HRV := Lib.hid (HRQ.out.grow hB1)
          have HQS := Lib.hid HBQ.out.size
          generalize (wq.alloc (.cells #[.int .u32 ca, .int .i64 ck, .pointer none, .pointer (some ⟨g, 0, none⟩), .int .i64 0, .bool false] 129)).drew = V at HB1 HU HRV ⊢
          have HXV := Lib.hid ((HB1.out.block _ hbl).trans HXQ.out)
          have HKV := Lib.hid ((HB1.out.block _ hkl).trans HKQ.out)
          clear hB1 c0 c1 c2 c3 c4 c5 b0 b1 k0 k1
          have b0 : V.cell? ⟨w.heap.size, 0, none⟩ = some (.int .u32 a) := cell_of_row _ w.heap.size 0 _ 25 (0, 0) HXV.out
          have b1 : V.cell? ⟨w.heap.size, 1, none⟩ = some (.int .i64 b) := cell_of_row _ w.heap.size 1 _ 25 (0, 0) HXV.out
          have k0 : V.cell? ⟨k, 0, none⟩ = some (.int .u32 ca) := cell_of_row _ k 0 _ 25 (0, 0) HKV.out
          have k1 : V.cell? ⟨k, 1, none⟩ = some (.int .i64 ck) := cell_of_row _ k 1 _ 25 (0, 0) HKV.out
          have m1 : V.cell? ⟨wq.heap.size, 1, none⟩ = some (.int .i64 ck) := cell_of_row _ wq.heap.size 1 _ 129 (0, 0) HU.out
          have m2 : V.cell? ⟨wq.heap.size, 2, none⟩ = some (.pointer none) := cell_of_row _ wq.heap.size 2 _ 129 (0, 0) HU.out
          have m3 : V.frozen? ⟨wq.heap.size, 2, none⟩ = false := frozen_of_row HU.out 2
          have hul := (Array.getElem?_eq_some_iff.1 HU.out).1
          have hbl2 := (Array.getElem?_eq_some_iff.1 HXV.out).1
          have ha := HV.out.1
          go_wp2_with fail
          go_region_with (go_at_call 94; (refine (side_f wq.heap.size ck a _ ha hd31 (by go_simp) Hb2.out).mono ?_); rintro e w9 ⟨rfl, rfl⟩)
          all_goals
            go_wp2_with fail
            go_ret
            have FK := fork_r (ca := ca) (ck := ck) (v := v) HVC.out HV.out HBQ.out HRQ.out HN.out HRV.out HB1.out HU.out
            refine ⟨.node wq.heap.size ca ck (.node V.heap.size a b .nil .nil v true) (.node g na nd l r v0 h) 0 false, rfl, FK.1, ?_, FK.2.1, FK.2.2.1, FK.2.2.2⟩
            rw [show PT.bt (.node g na nd l r v0 h) = .node (path na nd) l.bt r.bt (if h then some v0 else none) from rfl, wth_fork _ _ _ _ HPC.out.symm HNE.out HPX.out, HSO.out]
            rfl
theorem with_any (a b : Nat) (v : Int) (hV : Val a b) : ∀ (t : PT) (w : World), RepP w t → t.dom.Nodup → Calls Tryd.prog 90 #[.pointer t.addr, .agg #[.int .u32 a, .int .i64 b], .int .i64 v] w (WithPost t (path a b) v w) := by
  intro t
  induction t with
  | nil => exact fun w _ _ => with_nil a b v w hV
  | node g na nd l r v0 h ihl ihr => exact fun w hr hn => with_node a b v g na nd l r v0 h w hV hr hn ihl ihr
end Go.Proofs.YtaknlphmplimhaaDoor
