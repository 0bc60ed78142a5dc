/- The compressed trie in memory: trees whose nodes bear their block's number and prefix, what a world that holds such a tree says, and the plain trie that it stands for; no walk. -/
import Derived.Test.YtaknlphmplimhaaDoorPc
import Derived.Test.YtaknlphmplimhaaDoorTd
import Derived.Laws.StructEq
set_option linter.unusedVariables false
set_option linter.unusedSimpArgs false
namespace Go.Proofs.YtaknlphmplimhaaDoor
open Go.RowKit Go.Proofs

inductive PT where
  | nil : PT
  | node (g a d : Nat) (l r : PT) (v : Int) (h : Bool) : PT
namespace PT
def addr : PT → Option Addr
  | nil => none
  | node g .. => some ⟨g, 0, none⟩
def dom : PT → List Nat
  | nil => []
  | node g _ _ l r _ _ => g :: (dom l ++ dom r)
def bt : PT → BT
  | nil => .nil
  | node _ a d l r v h => .node (path a d) (bt l) (bt r) (if h then some v else none)
end PT
abbrev PT.ptr (t : PT) : Value := .pointer t.addr
def cellsP (a d : Nat) (l r : Value) (v : Int) (h : Bool) : Array Value := #[.int .u32 a, .int .i64 d, l, r, .int .i64 v, .bool h]
/-- The world holds the tree, whose prefixes are valid. -/
def RepP (w : World) : PT → Prop
  | .nil => True
  | .node g a d l r v h => (Val a d ∧ w.heap[g]? = some (.cells (cellsP a d l.ptr r.ptr v h) 129 (0, 0))) ∧ RepP w l ∧ RepP w r
theorem RepP.keep {w w' : World} : ∀ {t : PT}, RepP w t → (∀ b, b ∈ t.dom → w'.heap[b]? = w.heap[b]?) → RepP w' t
  | .nil, _, _ => trivial
  | .node g a d l r v h, ⟨⟨h0, h1⟩, h2, h3⟩, hk => ⟨⟨h0, (hk g (by simp [PT.dom])).trans h1⟩, h2.keep (fun c hc => hk c (by simp [PT.dom, hc])), h3.keep (fun c hc => hk c (by simp [PT.dom, hc]))⟩
theorem RepP.lt {w : World} : ∀ {t : PT}, RepP w t → ∀ b, b ∈ t.dom → b < w.heap.size
  | .node g a d l r v h, ⟨⟨_, h1⟩, h2, h3⟩, c, hc => by
    simp only [PT.dom, List.mem_cons, List.mem_append] at hc
    rcases hc with rfl | hc | hc
    · exact (Array.getElem?_eq_some_iff.1 h1).1
    · exact h2.lt c hc
    · exact h3.lt c hc
theorem RepP.grow {w w' : World} {t : PT} (h : RepP w t) (hb : Below w.heap.size w w') : RepP w' t := h.keep fun b hm => hb.block b (h.lt b hm)
theorem RepP.same {w w' : World} {t : PT} (h : RepP w t) (hb : w'.heap = w.heap) : RepP w' t := h.keep fun b hm => by rw [hb]
theorem RepP.far {w : World} {t : PT} (h : RepP w t) {q : Addr} (hq : q.block ∉ t.dom) (u : Value) : RepP (w.setCell q u) t :=
  h.keep fun b hb => Below.heap_setCell _ _ _ _ (by rintro rfl; exact hq hb)
theorem cell_nodeP {w : World} {g a d : Nat} {l r : PT} {v : Int} {h : Bool} (hr : RepP w (.node g a d l r v h)) :
    w.cell? ⟨g, 0, none⟩ = some (.int .u32 a) ∧ w.cell? ⟨g, 1, none⟩ = some (.int .i64 d) ∧ w.cell? ⟨g, 2, none⟩ = some l.ptr ∧ w.cell? ⟨g, 3, none⟩ = some r.ptr ∧ w.cell? ⟨g, 4, none⟩ = some (.int .i64 v) ∧ w.cell? ⟨g, 5, none⟩ = some (.bool h) :=
  ⟨cell_of_row w g 0 _ 129 (0, 0) hr.1.2, cell_of_row w g 1 _ 129 (0, 0) hr.1.2, cell_of_row w g 2 _ 129 (0, 0) hr.1.2, cell_of_row w g 3 _ 129 (0, 0) hr.1.2, cell_of_row w g 4 _ 129 (0, 0) hr.1.2, cell_of_row w g 5 _ 129 (0, 0) hr.1.2⟩
/-- The world holds a compressed table. -/
structure PR (w : World) (tb : Nat) (z : Int) (t : PT) : Prop where
  root : w.heap[tb]? = some (.cells #[t.ptr, .int .i64 z] 122 (0, 0))
  rep : RepP w t
  nd : (tb :: t.dom).Nodup
  wf : BT.WF [] t.bt
theorem PR.grow {w w' : World} {tb : Nat} {z : Int} {t : PT} (h : PR w tb z t) (hb : Below w.heap.size w w') : PR w' tb z t :=
  ⟨(hb.block tb (Array.getElem?_eq_some_iff.1 h.root).1).trans h.root, h.rep.grow hb, h.nd, h.wf⟩
theorem PR.keep {w w' : World} {tb : Nat} {z : Int} {t : PT} (h : PR w tb z t) (hk : ∀ b, b ∈ tb :: t.dom → w'.heap[b]? = w.heap[b]?) : PR w' tb z t :=
  ⟨(hk tb (by simp)).trans h.root, h.rep.keep (fun b hb => hk b (by simp [hb])), h.nd, h.wf⟩
theorem PR.lt {w : World} {tb : Nat} {z : Int} {t : PT} (h : PR w tb z t) : ∀ b, b ∈ tb :: t.dom → b < w.heap.size := by
  intro b hb
  simp only [List.mem_cons] at hb
  rcases hb with rfl | hb
  · exact (Array.getElem?_eq_some_iff.1 h.root).1
  · exact h.rep.lt b hb
theorem cell_rootP {w : World} {tb : Nat} {z : Int} {p : Value} (h : w.heap[tb]? = some (.cells #[p, .int .i64 z] 122 (0, 0))) : w.cell? ⟨tb, 0, none⟩ = some p ∧ w.cell? ⟨tb, 1, none⟩ = some (.int .i64 z) := ⟨cell_of_row w tb 0 _ 122 (0, 0) h, cell_of_row w tb 1 _ 122 (0, 0) h⟩
/-- Two valid prefixes are the same if their paths are. -/
theorem path_same {a b c d : Nat} (h1 : Val a b) (h2 : Val c d) (h : path a b = path c d) : a = c ∧ b = d := by
  have hl := congrArg List.length h
  rw [path_length, path_length] at hl
  subst hl
  exact ⟨path_inj h1.1 h2.1 h1.2.1 h1.2.2 h2.2.2 h, rfl⟩
/-- Which side an address is on. -/
theorem sideOf_path {p : List Bool} {a d : Nat} (h : p.length < d) : sideOf p (path a d) = bitB a p.length := by
  unfold sideOf
  rw [List.getD_eq_getElem?_getD, path_at h]
  rfl
set_option maxHeartbeats 400000 in
theorem side_t (g d x : Nat) (w : World) (hx : x < 4294967296) (hd : d ≤ 31) (hc : w.cell? ⟨g, 1, none⟩ = some (.int .i64 d)) (hb : bitB x d = true) :
    Calls Tryd.prog 94 #[.pointer (some ⟨g, 0, none⟩), .int .u32 x] w fun e w' => e = .returned (.int .i64 1) ∧ w' = w := by
  have hm := bit_eq x d hx hd
  rw [bitB_cast, hb] at hm
  have HM := Lib.hid hm
  clear hm hb
  have hwd : IntKind.i64.wrap (31 - (d : Int)) = 31 - (d : Int) := IntWalk.i64_in _ (by omega)
  go_enter Tryd.func94, Tryd.ntmps94
  go_wp2
  go_ret
  exact ⟨ret_int HM.out, rfl⟩
set_option maxHeartbeats 400000 in
theorem side_f (g d x : Nat) (w : World) (hx : x < 4294967296) (hd : d ≤ 31) (hc : w.cell? ⟨g, 1, none⟩ = some (.int .i64 d)) (hb : bitB x d = false) :
    Calls Tryd.prog 94 #[.pointer (some ⟨g, 0, none⟩), .int .u32 x] w fun e w' => e = .returned (.int .i64 0) ∧ w' = w := by
  have hm := bit_eq x d hx hd
  rw [bitB_cast, hb] at hm
  have HM := Lib.hid hm
  clear hm hb
  have hwd : IntKind.i64.wrap (31 - (d : Int)) = 31 - (d : Int) := IntWalk.i64_in _ (by omega)
  go_enter Tryd.func94, Tryd.ntmps94
  go_wp2
  go_ret
  exact ⟨ret_int HM.out, rfl⟩
theorem fields25 : Tryd.prog.underlying 25 = some (.struct (Tryd.prog.fieldsOf 25)) := by kernel_rfl
theorem stood25 : Tryd.prog.stoodInHeld 25 = false := by kernel_rfl
set_option maxHeartbeats 1000000 in
theorem eqA25 (n : Nat) (w : World) (x y x2 y2 : Int) :
    (Op.equalIn (n + 2) 25 (.agg #[.int .u32 x, .int .i64 x2]) (.agg #[.int .u32 y, .int .i64 y2])).run Tryd.prog w = .ok (x == y && x2 == y2) w := by
  have u3_ := Tryd.underlying3
  have a3_ := Tryd.isAgg3
  have z3_ := Tryd.sizeOf3
  have u23_ := Tryd.underlying23
  have a23_ := Tryd.isAgg23
  have z23_ := Tryd.sizeOf23
  rw [show n + 2 = (n + 1) + 1 from rfl, run_equalIn_agg w (n + 1) 25 _ _ fields25 stood25]
  simp only [Program.fieldsOf, Tryd.underlying25]
  go_simp
  by_cases h1 : x = y <;> by_cases h2 : x2 = y2 <;> simp [h1, h2]
end Go.Proofs.YtaknlphmplimhaaDoor
