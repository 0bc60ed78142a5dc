/- The trie in memory, plainly: trees whose nodes bear their block's number, what a world that holds such a tree says, paths, a tree with a hole, and what a store does; no walk, no condition beyond those that each lemma names. -/
import Derived.Test.YtaknlphmplimhaaDoorMa
import Derived.Below
import Derived.Laws.Rows
import Derived.Deep.Draws
set_option linter.unusedVariables false
set_option linter.unusedSimpArgs false
namespace Go.Proofs.YtaknlphmplimhaaDoor
open Go.RowKit

/-- A tree; each node lies in a block of memory. -/
inductive AT where
  | nil : AT
  | node (b : Nat) (l r : AT) (v : Int) (h : Bool) : AT
namespace AT
def ptr : AT → Value
  | nil => .pointer none
  | node b .. => .pointer (some ⟨b, 0, none⟩)
def dom : AT → List Nat
  | nil => []
  | node b l r _ _ => b :: (dom l ++ dom r)
def kid (t : AT) (c : Bool) : AT := match t with | nil => nil | node _ l r _ _ => if c then r else l
def top : AT → Option Int
  | nil => none
  | node _ _ _ v h => if h then some v else none
/-- The subtree at a path, and the value there. -/
def sub (t : AT) (p : List Bool) : AT := p.foldl kid t
def get (t : AT) (p : List Bool) : Option Int := top (sub t p)
end AT
open AT

def cellsN (l r : Value) (v : Int) (h : Bool) : Array Value := #[l, r, .int .i64 v, .bool h]
/-- The world holds the tree. -/
def Rep (w : World) : AT → Prop
  | .nil => True
  | .node b l r v h => w.heap[b]? = some (.cells (cellsN l.ptr r.ptr v h) 106 (0, 0)) ∧ Rep w l ∧ Rep w r

theorem Rep.keep {w w' : World} : ∀ {t : AT}, Rep w t → (∀ b, b ∈ t.dom → w'.heap[b]? = w.heap[b]?) → Rep w' t
  | .nil, _, _ => trivial
  | .node b l r v h, ⟨h1, h2, h3⟩, hk => ⟨(hk b (by simp [dom])).trans h1, h2.keep (fun c hc => hk c (by simp [dom, hc])), h3.keep (fun c hc => hk c (by simp [dom, hc]))⟩
theorem Rep.lt {w : World} : ∀ {t : AT}, Rep w t → ∀ b, b ∈ t.dom → b < w.heap.size
  | .node b l r v h, ⟨h1, h2, h3⟩, c, hc => by
    simp only [dom, List.mem_cons, List.mem_append] at hc
    rcases hc with rfl | hc | hc
    · exact (Array.getElem?_eq_some_iff.1 h1).1
    · exact h2.lt c hc
    · exact h3.lt c hc
theorem Rep.below {w w' : World} {t : AT} (h : Rep w t) {B : Nat} (hb : Below B w w') (hB : ∀ b, b ∈ t.dom → b < B) : Rep w' t := h.keep fun b hm => hb.block b (hB b hm)
theorem Rep.grow {w w' : World} {t : AT} (h : Rep w t) (hb : Below w.heap.size w w') : Rep w' t := h.below hb h.lt
theorem sub_nil : ∀ p : List Bool, AT.sub .nil p = .nil
  | [] => rfl
  | _ :: p => sub_nil p
theorem sub_append (p q : List Bool) (t : AT) : t.sub (p ++ q) = (t.sub p).sub q := List.foldl_append
theorem sub_snoc (t : AT) (p : List Bool) (c : Bool) : t.sub (p ++ [c]) = kid (t.sub p) c := sub_append p [c] t
theorem Rep.kid {w : World} (c : Bool) : ∀ {t : AT}, Rep w t → Rep w (t.kid c)
  | .nil, _ => trivial
  | .node _ _ _ _ _, h => by cases c; exact h.2.1; exact h.2.2
theorem Rep.sub {w : World} : ∀ (p : List Bool) {t : AT}, Rep w t → Rep w (t.sub p)
  | [], _, h => h
  | c :: p, _, h => Rep.sub p (h.kid c)

/-- The path of a prefix of b bits. -/
def bitB (a i : Nat) : Bool := bitN a i == 1
def path (a b : Nat) : List Bool := (List.range b).map (bitB a)
theorem path_length (a b : Nat) : (path a b).length = b := by simp [path]
theorem path_succ (a b : Nat) : path a (b + 1) = path a b ++ [bitB a b] := by simp [path, List.range_succ]
theorem path_split (a i b : Nat) (h : i < b) : path a b = path a i ++ bitB a i :: ((List.range (b - i - 1)).map fun j => bitB a (i + 1 + j)) := by
  have : b = i + 1 + (b - i - 1) := by omega
  conv => lhs; rw [this]
  unfold path
  rw [List.range_add, List.map_append, List.range_succ, List.map_append, List.map_map, List.append_assoc]
  rfl
theorem path_inj {a c b : Nat} (ha : a < 4294967296) (hc : c < 4294967296) (hb : b ≤ 32) (h1 : a % 2 ^ (32 - b) = 0) (h2 : c % 2 ^ (32 - b) = 0) (h : path a b = path c b) : a = c := by
  apply Nat.eq_of_testBit_eq
  intro i
  by_cases hi : i < 32
  · by_cases hlo : i < 32 - b
    · have z : ∀ x : Nat, x % 2 ^ (32 - b) = 0 → x.testBit i = false := by
        intro x hx
        have := Nat.testBit_mod_two_pow x (32 - b) i
        rw [hx, decide_eq_true hlo] at this
        simpa using this.symm
      rw [z a h1, z c h2]
    · have hj : 31 - i < b := by omega
      have e := congrArg (fun l => l[31 - i]?) h
      simp only [path, List.getElem?_map, List.getElem?_range hj, Option.map_some, Option.some.injEq, bitB, bitN] at e
      rw [show 31 - (31 - i) = i by omega] at e
      rw [Nat.testBit_eq_decide_div_mod_eq, Nat.testBit_eq_decide_div_mod_eq]
      have : ∀ n : Nat, (n == 1) = decide (n = 1) := fun n => by by_cases hn : n = 1 <;> simp [hn]
      simpa [this] using e
  · rw [Nat.testBit_lt_two_pow (Nat.lt_of_lt_of_le ha (show 2 ^ 32 ≤ 2 ^ i from Nat.pow_le_pow_right (by decide) (by omega))), Nat.testBit_lt_two_pow (Nat.lt_of_lt_of_le hc (show 2 ^ 32 ≤ 2 ^ i from Nat.pow_le_pow_right (by decide) (by omega)))]

/-! ### a tree with a hole -/
/-- What lies above the hole: the node's block, on which side the hole is, the other side, value, mark. -/
structure Fr where
  (b : Nat) (c : Bool) (o : AT) (v : Int) (h : Bool)
def fill (f : Fr) (s : AT) : AT := if f.c then .node f.b f.o s f.v f.h else .node f.b s f.o f.v f.h
def plug : List Fr → AT → AT
  | [], s => s
  | f :: k, s => plug k (fill f s)
def sides : List Fr → List Bool
  | [] => []
  | f :: k => sides k ++ [f.c]
def kdom : List Fr → List Nat
  | [] => []
  | f :: k => f.b :: (f.o.dom ++ kdom k)
def hole (tb : Nat) : List Fr → Addr
  | [] => ⟨tb, 0, none⟩
  | f :: _ => ⟨f.b, if f.c then 1 else 0, none⟩
/-- The world holds what lies about the hole, the hole's cell holding p. -/
def KRep (w : World) (tb : Nat) (z : Int) : List Fr → Value → Prop
  | [], p => w.heap[tb]? = some (.cells #[p, .int .i64 z] 109 (0, 0))
  | f :: k, p => w.heap[f.b]? = some (.cells (cellsN (if f.c then f.o.ptr else p) (if f.c then p else f.o.ptr) f.v f.h) 106 (0, 0)) ∧ Rep w f.o ∧ KRep w tb z k (.pointer (some ⟨f.b, 0, none⟩))
theorem fill_ptr (f : Fr) (s : AT) : (fill f s).ptr = .pointer (some ⟨f.b, 0, none⟩) := by unfold fill; split <;> rfl
theorem rep_fill {w : World} {f : Fr} {s : AT} : Rep w (fill f s) ↔ w.heap[f.b]? = some (.cells (cellsN (if f.c then f.o.ptr else s.ptr) (if f.c then s.ptr else f.o.ptr) f.v f.h) 106 (0, 0)) ∧ Rep w f.o ∧ Rep w s := by
  unfold fill
  cases f.c
  · simp only [Bool.false_eq_true, if_false, Rep]
    exact ⟨fun ⟨a, b, c⟩ => ⟨a, c, b⟩, fun ⟨a, b, c⟩ => ⟨a, c, b⟩⟩
  · simp only [if_true, Rep]
theorem krep_plug {w : World} {tb : Nat} {z : Int} : ∀ (k : List Fr) (s : AT), (KRep w tb z k s.ptr ∧ Rep w s) ↔ (KRep w tb z [] (plug k s).ptr ∧ Rep w (plug k s))
  | [], s => Iff.rfl
  | f :: k, s => by
    have ih := krep_plug (w := w) (tb := tb) (z := z) k (fill f s)
    rw [show plug (f :: k) s = plug k (fill f s) from rfl, ← ih, rep_fill, fill_ptr]
    constructor
    · rintro ⟨⟨a, b, c⟩, d⟩; exact ⟨c, a, b, d⟩
    · rintro ⟨c, a, b, d⟩; exact ⟨⟨a, b, c⟩, d⟩
theorem dom_fill (f : Fr) (s : AT) : (fill f s).dom.Perm (f.b :: (f.o.dom ++ s.dom)) := by
  unfold fill
  cases f.c
  · simp only [Bool.false_eq_true, if_false, dom]
    exact List.Perm.cons _ List.perm_append_comm
  · simp only [if_true, dom]
    exact List.Perm.refl _
theorem dom_plug : ∀ (k : List Fr) (s : AT), (plug k s).dom.Perm (kdom k ++ s.dom)
  | [], s => by simp [plug, kdom]
  | f :: k, s => by
    refine (dom_plug k (fill f s)).trans ?_
    refine (List.Perm.append_left _ (dom_fill f s)).trans ?_
    simp only [kdom, List.cons_append, List.append_assoc]
    refine List.perm_middle.trans (List.Perm.cons _ ?_)
    rw [← List.append_assoc, ← List.append_assoc]
    exact List.Perm.append_right _ List.perm_append_comm
theorem get_fill (f : Fr) (s : AT) (c : Bool) (q : List Bool) : (fill f s).get (c :: q) = if c = f.c then s.get q else f.o.get q := by
  show top (AT.sub (kid (fill f s) c) q) = _
  unfold fill AT.get
  cases c <;> cases f.c <;> rfl
theorem get_plug : ∀ (k : List Fr) (s : AT) (q : List Bool), (plug k s).get (sides k ++ q) = s.get q
  | [], s, q => rfl
  | f :: k, s, q => by
    rw [show plug (f :: k) s = plug k (fill f s) from rfl, show sides (f :: k) ++ q = sides k ++ (f.c :: q) by simp [sides], get_plug k]
    rw [get_fill, if_pos rfl]
theorem get_plug_other : ∀ (k : List Fr) (s s' : AT) (q : List Bool), ¬ sides k <+: q → (plug k s).get q = (plug k s').get q
  | [], _, _, q, h => absurd (List.nil_prefix) h
  | f :: k, s, s', q, h => by
    rw [show plug (f :: k) s = plug k (fill f s) from rfl, show plug (f :: k) s' = plug k (fill f s') from rfl]
    by_cases hk : sides k <+: q
    · obtain ⟨r, rfl⟩ := hk
      rw [get_plug, get_plug]
      cases r with
      | nil => unfold fill AT.get; cases f.c <;> rfl
      | cons c r =>
        rw [get_fill, get_fill]
        by_cases hc : c = f.c
        · subst hc
          exact absurd ⟨r, by simp [sides]⟩ h
        · rw [if_neg hc, if_neg hc]
    · exact get_plug_other k _ _ q hk
theorem hole_mem (tb : Nat) (k : List Fr) : (hole tb k).block ∈ tb :: kdom k := by
  cases k with
  | nil => simp [hole]
  | cons f k => simp [hole, kdom]
theorem KRep.keep {w w' : World} {tb : Nat} {z : Int} : ∀ {k : List Fr} {p : Value}, KRep w tb z k p → (∀ b, b ∈ tb :: kdom k → w'.heap[b]? = w.heap[b]?) → KRep w' tb z k p
  | [], _, h, hk => (hk tb (by simp)).trans h
  | f :: k, _, ⟨h1, h2, h3⟩, hk => ⟨(hk f.b (by simp [kdom])).trans h1, h2.keep (fun c hc => hk c (by simp [kdom, hc])), h3.keep (fun c hc => hk c (by
      simp only [List.mem_cons] at hc
      rcases hc with rfl | hc
      · simp
      · simp [kdom, hc]))⟩
theorem KRep.lt {w : World} {tb : Nat} {z : Int} : ∀ {k : List Fr} {p : Value}, KRep w tb z k p → ∀ b, b ∈ tb :: kdom k → b < w.heap.size
  | [], _, h, b, hb => by
    simp [kdom] at hb; subst hb
    exact (Array.getElem?_eq_some_iff.1 h).1
  | f :: k, _, ⟨h1, h2, h3⟩, b, hb => by
    simp only [kdom, List.mem_cons, List.mem_append] at hb
    rcases hb with rfl | rfl | hb | hb
    · exact h3.lt b (by simp)
    · exact (Array.getElem?_eq_some_iff.1 h1).1
    · exact h2.lt b hb
    · exact h3.lt b (by simp [hb])

/-! ### stores -/
theorem heap_setCell_same {w : World} {g : Nat} {cs : Array Value} {t : TypeId} (h : w.heap[g]? = some (.cells cs t (0, 0))) (i : Nat) (u : Value) : (w.setCell ⟨g, i, none⟩ u).heap[g]? = some (.cells (cs.setIfInBounds i u) t (0, 0)) := by
  simp [World.setCell, Array.getElem?_modify, h]
theorem KRep.store {w : World} {tb : Nat} {z : Int} {k : List Fr} {p : Value} (h : KRep w tb z k p) (hn : (tb :: kdom k).Nodup) (u : Value) : KRep (w.setCell (hole tb k) u) tb z k u := by
  cases k with
  | nil =>
    have := heap_setCell_same (i := 0) h u
    simpa [KRep, hole] using this
  | cons f k =>
    obtain ⟨h1, h2, h3⟩ := h
    have hne : ∀ b, b ∈ tb :: kdom k → b ≠ f.b := by
      rintro b hb rfl
      simp only [kdom, List.nodup_cons, List.mem_cons, List.mem_append, not_or] at hn hb
      rcases hb with hb | hb
      · exact hn.1.1 hb.symm
      · exact hn.2.1.2 hb
    have hno : ∀ b, b ∈ f.o.dom → b ≠ f.b := by
      rintro b hb rfl
      simp only [kdom, List.nodup_cons, List.mem_cons, List.mem_append, not_or] at hn
      exact hn.2.1.1 hb
    refine ⟨?_, h2.keep (fun b hb => Below.heap_setCell _ _ _ _ (hno b hb)), h3.keep (fun b hb => Below.heap_setCell _ _ _ _ (hne b hb))⟩
    have := heap_setCell_same (i := if f.c then 1 else 0) h1 u
    unfold hole
    rw [this]
    cases f.c <;> simp [cellsN]

/-- All blocks but those of S are as they were. -/
structure Kp (S : List Nat) (w w' : World) : Prop where
  os : w'.os = w.os
  tape : w'.tape = w.tape
  output : w'.output = w.output
  size : w.heap.size ≤ w'.heap.size
  block : ∀ i, i < w.heap.size → i ∉ S → w'.heap[i]? = w.heap[i]?
theorem Kp.refl (S : List Nat) (w : World) : Kp S w w := ⟨rfl, rfl, rfl, Nat.le_refl _, fun _ _ _ => rfl⟩
theorem Kp.trans {S : List Nat} {a b c : World} (h : Kp S a b) (k : Kp S b c) : Kp S a c :=
  ⟨k.os.trans h.os, k.tape.trans h.tape, k.output.trans h.output, Nat.le_trans h.size k.size, fun i hi hn => (k.block i (Nat.lt_of_lt_of_le hi h.size) hn).trans (h.block i hi hn)⟩
theorem Kp.of_below {S : List Nat} {w w' : World} (h : Below w.heap.size w w') : Kp S w w' := ⟨h.os, h.tape, h.output, h.size, fun i hi _ => h.block i hi⟩
theorem Kp.drewN {S : List Nat} {a w : World} (h : Kp S a w) (n : Nat) : Kp S a (w.drewN n) := ⟨h.os, h.tape, h.output, h.size, h.block⟩
theorem Kp.drew {S : List Nat} {a w : World} (h : Kp S a w) : Kp S a w.drew := ⟨h.os, h.tape, h.output, h.size, h.block⟩
theorem Kp.alloc {S : List Nat} {a w : World} (h : Kp S a w) (o : Obj) : Kp S a (w.alloc o) :=
  ⟨h.os, h.tape, h.output, by have := h.size; simp; omega, fun i hi hn => (Below.heap_alloc _ _ _ (Nat.lt_of_lt_of_le hi h.size)).trans (h.block i hi hn)⟩
theorem Kp.setCell {S : List Nat} {a w : World} (h : Kp S a w) {p : Addr} (hp : p.block ∈ S ∨ a.heap.size ≤ p.block) (u : Value) : Kp S a (w.setCell p u) :=
  ⟨h.os, h.tape, h.output, by have := h.size; simp [World.setCell]; omega, fun i hi hn => (Below.heap_setCell _ _ _ _ (by rintro rfl; rcases hp with hp | hp; exact hn hp; omega)).trans (h.block i hi hn)⟩
theorem Kp.mono {S S' : List Nat} {w w' : World} (h : Kp S w w') (hs : ∀ x, x ∈ S → x ∈ S') : Kp S' w w' := ⟨h.os, h.tape, h.output, h.size, fun i hi hn => h.block i hi (fun hx => hn (hs i hx))⟩
theorem Kp.below {S : List Nat} {w w' : World} (h : Kp S w w') {B : Nat} (hB : B ≤ w.heap.size) (hS : ∀ x, x ∈ S → B ≤ x) : Below B w w' :=
  ⟨h.os, h.tape, h.output, h.size, fun i hi => h.block i (Nat.lt_of_lt_of_le hi hB) (fun hx => by have := hS i hx; omega)⟩
/-- A step whose changed blocks were changed before, or are younger than the first world. -/
theorem Kp.step {S S' : List Nat} {a b c : World} (h : Kp S a b) (k : Kp S' b c) (hs : ∀ x, x ∈ S' → x ∈ S ∨ a.heap.size ≤ x) : Kp S a c :=
  ⟨k.os.trans h.os, k.tape.trans h.tape, k.output.trans h.output, Nat.le_trans h.size k.size, fun i hi hn => (k.block i (Nat.lt_of_lt_of_le hi h.size) (fun hx => by rcases hs i hx with g | g; exact hn g; omega)).trans (h.block i hi hn)⟩

/-- The world holds a table: its root's block, the count, the tree; no block twice. -/
structure TR (w : World) (tb : Nat) (z : Int) (t : AT) : Prop where
  root : KRep w tb z [] t.ptr
  rep : Rep w t
  nd : (tb :: t.dom).Nodup
theorem TR.grow {w w' : World} {tb : Nat} {z : Int} {t : AT} (h : TR w tb z t) (hb : Below w.heap.size w w') : TR w' tb z t :=
  ⟨h.root.keep (fun b hm => hb.block b (h.root.lt b hm)), h.rep.grow hb, h.nd⟩
theorem TR.lt {w : World} {tb : Nat} {z : Int} {t : AT} (h : TR w tb z t) : ∀ b, b ∈ tb :: t.dom → b < w.heap.size := by
  intro b hb
  simp only [List.mem_cons] at hb
  rcases hb with rfl | hb
  · exact h.root.lt b (by simp)
  · exact h.rep.lt b hb
theorem nd_plug {tb : Nat} {k : List Fr} {s : AT} : (tb :: (plug k s).dom).Nodup ↔ (tb :: (kdom k ++ s.dom)).Nodup := (List.Perm.cons tb (dom_plug k s)).nodup_iff
theorem mem_plug {k : List Fr} {s : AT} {x : Nat} : x ∈ (plug k s).dom ↔ x ∈ kdom k ∨ x ∈ s.dom := by rw [(dom_plug k s).mem_iff, List.mem_append]
theorem TR.of_plug {w : World} {tb : Nat} {z : Int} {k : List Fr} {s : AT} (h1 : KRep w tb z k s.ptr) (h2 : Rep w s) (h3 : (tb :: (kdom k ++ s.dom)).Nodup) : TR w tb z (plug k s) :=
  have h := (krep_plug k s).1 ⟨h1, h2⟩
  ⟨h.1, h.2, nd_plug.2 h3⟩
/-- Where a path leads to a node there is a hole for it. -/
theorem sub_plug : ∀ (p : List Bool) (t : AT) (k0 : List Fr), t.sub p ≠ .nil → ∃ k, plug k (t.sub p) = plug k0 t ∧ sides k = sides k0 ++ p
  | [], t, k0, _ => ⟨k0, rfl, by simp⟩
  | c :: p, .nil, _, h => absurd (sub_nil (c :: p)) h
  | c :: p, .node b l r v hh, k0, h => by
    obtain ⟨k, e1, e2⟩ := sub_plug p (kid (.node b l r v hh) c) (⟨b, c, kid (.node b l r v hh) (!c), v, hh⟩ :: k0) h
    refine ⟨k, ?_, by rw [e2]; simp [sides]⟩
    rw [show AT.sub (.node b l r v hh) (c :: p) = AT.sub (kid (.node b l r v hh) c) p from rfl, e1]
    show plug k0 (fill _ _) = _
    cases c <;> rfl
theorem KRep.cell {w : World} {tb : Nat} {z : Int} {k : List Fr} {p : Value} (h : KRep w tb z k p) : w.cell? (hole tb k) = some p ∧ w.frozen? (hole tb k) = false := by
  cases k with
  | nil => exact ⟨cell_of_row w tb 0 _ 109 (0, 0) h, by simp [hole, World.frozen?, show w.heap[tb]? = _ from h]⟩
  | cons f k =>
    obtain ⟨h1, _, _⟩ := h
    rw [show hole tb (f :: k) = ⟨f.b, if f.c then 1 else 0, none⟩ from rfl]
    cases hc : f.c <;> rw [hc] at h1
    · exact ⟨cell_of_row w f.b 0 _ 106 (0, 0) h1, by simp [World.frozen?, h1]⟩
    · exact ⟨cell_of_row w f.b 1 _ 106 (0, 0) h1, by simp [World.frozen?, h1]⟩
theorem hole_eq (tb : Nat) (k : List Fr) : ∃ g o, hole tb k = ⟨g, o, none⟩ ∧ g ∈ tb :: kdom k := by
  cases k with
  | nil => exact ⟨_, _, rfl, by simp⟩
  | cons f k => exact ⟨_, _, rfl, by simp [kdom]⟩
/-- The node's value and mark are stored. -/
theorem Rep.mark {w : World} {b : Nat} {l r : AT} {v : Int} {h : Bool} (hr : Rep w (.node b l r v h)) (hn : (AT.dom (.node b l r v h)).Nodup) (v' : Int) : Rep (w.setCell ⟨b, 2, none⟩ (.int .i64 v')) (.node b l r v' h) := by
  obtain ⟨h1, h2, h3⟩ := hr
  have hne : ∀ c, c ∈ l.dom ∨ c ∈ r.dom → c ≠ b := by
    rintro c hc rfl
    simp only [AT.dom, List.nodup_cons, List.mem_append] at hn
    exact hn.1 hc
  refine ⟨?_, h2.keep (fun c hc => Below.heap_setCell _ _ _ _ (hne c (.inl hc))), h3.keep (fun c hc => Below.heap_setCell _ _ _ _ (hne c (.inr hc)))⟩
  have := heap_setCell_same (i := 2) h1 (.int .i64 v')
  rw [this]; simp [cellsN]
theorem Rep.mark3 {w : World} {b : Nat} {l r : AT} {v : Int} {h : Bool} (hr : Rep w (.node b l r v h)) (hn : (AT.dom (.node b l r v h)).Nodup) (h' : Bool) : Rep (w.setCell ⟨b, 3, none⟩ (.bool h')) (.node b l r v h') := by
  obtain ⟨h1, h2, h3⟩ := hr
  have hne : ∀ c, c ∈ l.dom ∨ c ∈ r.dom → c ≠ b := by
    rintro c hc rfl
    simp only [AT.dom, List.nodup_cons, List.mem_append] at hn
    exact hn.1 hc
  refine ⟨?_, h2.keep (fun c hc => Below.heap_setCell _ _ _ _ (hne c (.inl hc))), h3.keep (fun c hc => Below.heap_setCell _ _ _ _ (hne c (.inr hc)))⟩
  have := heap_setCell_same (i := 3) h1 (.bool h')
  rw [this]; simp [cellsN]
theorem KRep.far {w : World} {tb : Nat} {z : Int} {k : List Fr} {p : Value} (h : KRep w tb z k p) {q : Addr} (hq : q.block ∉ tb :: kdom k) (u : Value) : KRep (w.setCell q u) tb z k p :=
  h.keep fun b hb => Below.heap_setCell _ _ _ _ (by rintro rfl; exact hq hb)
theorem Rep.far {w : World} {t : AT} (h : Rep w t) {q : Addr} (hq : q.block ∉ t.dom) (u : Value) : Rep (w.setCell q u) t :=
  h.keep fun b hb => Below.heap_setCell _ _ _ _ (by rintro rfl; exact hq hb)
/-- The count is stored. -/
theorem TR.count {w : World} {tb : Nat} {z : Int} {t : AT} (h : TR w tb z t) (z' : Int) : TR (w.setCell ⟨tb, 1, none⟩ (.int .i64 z')) tb z' t := by
  have hn := h.nd
  refine ⟨?_, h.rep.far (by simp only [List.nodup_cons] at hn; exact hn.1) _, hn⟩
  have := heap_setCell_same (i := 1) h.root (.int .i64 z')
  show _ = _
  rw [this]; simp
end Go.Proofs.YtaknlphmplimhaaDoor
