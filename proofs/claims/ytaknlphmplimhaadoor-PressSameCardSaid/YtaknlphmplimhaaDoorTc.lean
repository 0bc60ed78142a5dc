/- The walk of (*trie.Trie).Put where the entry is new, and Put as a whole; a trie that the world holds, of fewer than 256 entries. -/
import Derived.Test.YtaknlphmplimhaaDoorTb
import Derived.Deep.DeepCutAuto
import Derived.Deep.CutRange
set_option linter.unusedVariables false
set_option linter.unusedSimpArgs false
namespace Go.Proofs.YtaknlphmplimhaaDoor
open Go.RowKit Go.Proofs AT

/-- At the head of Put's loop. -/
def PutRel (W w : World) (tb : Nat) (z : Int) (t : AT) (a b : Nat) (H : Nat) (i : Nat) (k : List Fr) (s : AT) : Prop :=
  sides k = path a i ∧ KRep w tb z k s.ptr ∧ Rep w s ∧ (tb :: (kdom k ++ s.dom)).Nodup ∧ (∀ q, (plug k s).get q = t.get q) ∧
  w.heap[H]? = some (.cells #[.int .u32 a, .int .i64 b] 25 (0, 0)) ∧ Kp (tb :: t.dom) W w ∧ (∀ x, x ∈ kdom k ++ s.dom → x ∈ t.dom ∨ W.heap.size < x) ∧ H = W.heap.size

theorem nilget (k : List Fr) (g : Nat) (v : Int) (t : AT) (h : ∀ q, (plug k .nil).get q = t.get q) (q : List Bool) : (plug k (.node g .nil .nil v false)).get q = t.get q := by
  rw [← h q]
  by_cases hp : sides k <+: q
  · obtain ⟨r, rfl⟩ := hp
    rw [get_plug, get_plug]
    cases r with
    | nil => rfl
    | cons c r =>
      show AT.top (AT.sub (kid _ c) r) = AT.top (AT.sub .nil (c :: r))
      rw [show kid (.node g .nil .nil v false) c = .nil by cases c <;> rfl]
      rfl
  · exact get_plug_other k _ _ q hp

theorem setCell_alloc_comm {w : World} {g o : Nat} {u : Value} {x : Obj} (h : g < w.heap.size) : (w.alloc x).setCell ⟨g, o, none⟩ u = (w.setCell ⟨g, o, none⟩ u).alloc x := World.setCell_alloc_past x g o u h
/-- A new node goes into the hole. -/
theorem PutRel.fresh {W w : World} {tb : Nat} {z : Int} {t : AT} {a b H i : Nat} {k : List Fr} (h : PutRel W w tb z t a b H i k .nil) (htl : ∀ x, x ∈ tb :: t.dom → x < W.heap.size) :
    PutRel W ((w.alloc (.cells #[.pointer none, .pointer none, .int .i64 0, .bool false] 106)).setCell (hole tb k) (.pointer (some ⟨w.heap.size, 0, none⟩))) tb z t a b H i k (.node w.heap.size .nil .nil 0 false) := by
  obtain ⟨h1, h2, h3, h4, h5, h6, h7, h8, h9⟩ := h
  have hlt := h2.lt
  have hHw : H < w.heap.size := (Array.getElem?_eq_some_iff.1 h6).1
  have hho := hole_mem tb k
  have hhl := hlt _ hho
  have nd1 : (tb :: kdom k).Nodup := by simpa [AT.dom] using h4
  have hhH : (hole tb k).block ≠ H := by
    intro e
    rw [e] at hho
    simp only [List.mem_cons] at hho
    rcases hho with hh | hh
    · have := htl tb (by simp); omega
    · rcases h8 H (by simp [hh]) with g | g
      · have := htl H (by simp [g]); omega
      · omega
  have k1 : KRep (w.alloc (.cells #[.pointer none, .pointer none, .int .i64 0, .bool false] 106)) tb z k (AT.ptr .nil) := h2.keep fun x hx => Below.heap_alloc _ _ _ (hlt x hx)
  refine ⟨h1, k1.store nd1 _, ⟨?_, trivial, trivial⟩, ?_, nilget k _ 0 t h5, ?_, ?_, ?_, h9⟩
  · rw [Below.heap_setCell _ _ _ _ (by omega), heap_alloc_new]; rfl
  · have hfresh : w.heap.size ∉ tb :: kdom k := fun hx => by have := hlt _ hx; omega
    have hp : (tb :: (kdom k ++ [w.heap.size])).Perm (w.heap.size :: (tb :: kdom k)) := by
      rw [← List.cons_append]
      exact List.perm_append_comm
    show (tb :: (kdom k ++ [w.heap.size])).Nodup
    rw [hp.nodup_iff, List.nodup_cons]
    exact ⟨hfresh, nd1⟩
  · rw [Below.heap_setCell _ _ _ _ (by omega), Below.heap_alloc _ _ _ hHw]; exact h6
  · refine (h7.alloc _).setCell ?_ _
    simp only [List.mem_cons] at hho ⊢
    rcases hho with hh | hh
    · exact .inl (.inl hh)
    · rcases h8 (hole tb k).block (by simp [hh]) with g | g
      · exact .inl (.inr g)
      · exact .inr (by omega)
  · intro x hx
    have : x ∈ kdom k ∨ x = w.heap.size := by simpa [AT.dom] using hx
    rcases this with hx | rfl
    · exact h8 x (by simp [hx])
    · right; omega
theorem PutRel.drewN {W w : World} {tb : Nat} {z : Int} {t : AT} {a b H i : Nat} {k : List Fr} {s : AT} (h : PutRel W w tb z t a b H i k s) (m : Nat) : PutRel W (w.drewN m) tb z t a b H i k s := by
  obtain ⟨h1, h2, h3, h4, h5, h6, h7, h8, h9⟩ := h
  exact ⟨h1, h2.keep (fun _ _ => rfl), h3.keep (fun _ _ => rfl), h4, h5, h6, h7.drewN m, h8, h9⟩
/-- One step down. -/
theorem PutRel.down {W w : World} {tb : Nat} {z : Int} {t : AT} {a b H i : Nat} {k : List Fr} {g : Nat} {l r : AT} {v : Int} {hh : Bool} (h : PutRel W w tb z t a b H i k (.node g l r v hh)) :
    PutRel W w tb z t a b H (i + 1) (⟨g, bitB a i, kid (.node g l r v hh) (!bitB a i), v, hh⟩ :: k) (kid (.node g l r v hh) (bitB a i)) := by
  obtain ⟨h1, h2, h3, h4, h5, h6, h7, h8, h9⟩ := h
  have hf : fill ⟨g, bitB a i, kid (.node g l r v hh) (!bitB a i), v, hh⟩ (kid (.node g l r v hh) (bitB a i)) = .node g l r v hh := by unfold fill; cases bitB a i <;> rfl
  have hperm : (kdom (⟨g, bitB a i, kid (.node g l r v hh) (!bitB a i), v, hh⟩ :: k) ++ (kid (.node g l r v hh) (bitB a i)).dom).Perm (kdom k ++ (AT.dom (.node g l r v hh))) := by
    have e1 := dom_plug (⟨g, bitB a i, kid (.node g l r v hh) (!bitB a i), v, hh⟩ :: k) (kid (.node g l r v hh) (bitB a i))
    have e2 := dom_plug k (.node g l r v hh)
    rw [show plug (⟨g, bitB a i, kid (.node g l r v hh) (!bitB a i), v, hh⟩ :: k) (kid (.node g l r v hh) (bitB a i)) = plug k (.node g l r v hh) by show plug k (fill _ _) = _; rw [hf]] at e1
    exact e1.symm.trans e2
  have hr : Rep w (fill ⟨g, bitB a i, kid (.node g l r v hh) (!bitB a i), v, hh⟩ (kid (.node g l r v hh) (bitB a i))) := by rw [hf]; exact h3
  obtain ⟨r1, r2, r3⟩ := rep_fill.1 hr
  refine ⟨by rw [path_succ, ← h1]; rfl, ⟨r1, r2, h2⟩, r3, ((List.Perm.cons tb hperm).nodup_iff).2 h4, ?_, h6, h7, fun x hx => h8 x (hperm.mem_iff.1 hx), h9⟩
  intro q
  rw [← h5 q]
  show (plug k (fill _ _)).get q = _
  rw [hf]

set_option maxHeartbeats 2000000 in
theorem put_new (tb : Nat) (t : AT) (z : Int) (a b : Nat) (v : Int) (w : World) (ha : a < 4294967296) (hc : chkE a b = 0) (hT : TR w tb z t) (hz : z < 256) (hz0 : 0 ≤ z)
    (hs : t.sub (path a b) = .nil ∨ ∃ g l r v0, t.sub (path a b) = .node g l r v0 false) :
    Calls Tryd.prog 24 #[.pointer (some ⟨tb, 0, none⟩), .agg #[.int .u32 a, .int .i64 b], .int .i64 v] w (PutPost w tb z t a b v) := by
  obtain ⟨h0, h1, _⟩ := chkE_zero.1 hc
  have Hc := Lib.hid hc
  have HT := Lib.hid hT
  have HS := Lib.hid hs
  have hlt : ∀ x, x ∈ tb :: t.dom → x < w.heap.size := hT.lt
  have htbl := hlt tb (by simp)
  have HL := Lib.hid hlt
  clear hc hT hs hlt
  go_enter Tryd.func24, Tryd.ntmps24
  go_wp2_with fail
  refine (check_any a b _ ha).mono ?_
  rw [Hc.out]
  rintro e w1 ⟨rfl, hb⟩
  have hcl : ∀ o, w1.cell? ⟨w.heap.size, o, none⟩ = _ := fun o => hb.cell (p := ⟨w.heap.size, o, none⟩) (by simp)
  have hs1 : w.heap.size + 1 ≤ w1.heap.size := by have := hb.size; simp at this; omega
  have hB : Below w.heap.size w w1 := bthen ((Below.refl _ _).alloc (Nat.le_refl _) _) (by simp) hb
  have hbox : w1.heap[w.heap.size]? = some (.cells #[.int .u32 a, .int .i64 b] 25 (0, 0)) := by rw [hb.block _ (by simp)]; exact heap_alloc_new _ _
  have HT1 := Lib.hid (HT.out.grow hB)
  have HBx := Lib.hid hbox
  clear hbox
  go_wp2_with fail
  refine (at_any tb t z a b _ ha (by omega) HT1.out.root HT1.out.rep).mono ?_
  rintro e w2 ⟨rfl, hb2⟩
  have HT2 := Lib.hid (HT1.out.grow hb2)
  have hs := HT2.out.rep.sub (path a b)
  have hB2 : Below w.heap.size w w2 := bthen hB (by omega) hb2
  have hbox2 : w2.heap[w.heap.size]? = some (.cells #[.int .u32 a, .int .i64 b] 25 (0, 0)) := by rw [hb2.block _ (by omega)]; exact HBx.out
  have HBx2 := Lib.hid hbox2
  clear hbox2 hcl
  obtain ⟨cr0, cr1⟩ := cell_root HT2.out.root
  have hz256 : (z == 256) = false := by rw [beq_eq_false_iff_ne]; omega
  have hs2 : w.heap.size < w2.heap.size := by have := hb2.size; omega
  have hRel : PutRel w w2 tb z t a b w.heap.size 0 [] t := ⟨rfl, HT2.out.root, HT2.out.rep, HT2.out.nd, fun _ => rfl, HBx2.out, Kp.of_below hB2, fun x hx => .inl (by simpa [kdom] using hx), rfl⟩
  have HRel := Lib.hid hRel
  clear hRel
  generalize hS : t.sub (path a b) = s at hs HS ⊢
  clear hS
  rcases HS.out with rfl | ⟨g, l, r, v0, rfl⟩
  · simp only [ptr_nil, ptr_node]
    go_wp2_with fail
    go_loopw [9, 10] (fun tp i wr => ∃ (n : Nat) (k : List Fr) (s : AT), n ≤ b ∧ i = .int .i64 n ∧ tp = .pointer (some (hole tb k)) ∧ PutRel w wr tb z t a b w.heap.size n k s) (fun _ i _ => b + 1 - (intOf i).toNat)
    case atStart => exact ⟨0, [], t, by omega, rfl, rfl, HRel.out⟩
    case round =>
      obtain ⟨n, k, s, hn, rfl, rfl, hR⟩ := hrel
      have HRR := Lib.hid hR
      clear hR
      obtain ⟨hh0, hfz⟩ := KRep.cell HRR.out.2.1
      obtain ⟨g, o, hho, hgm⟩ := hole_eq tb k
      have hgl := HRR.out.2.1.lt g hgm
      have hbx := HRR.out.2.2.2.2.2.1
      have hgH : g ≠ w.heap.size := by
        intro e
        subst e
        simp only [List.mem_cons] at hgm
        rcases hgm with hh | hh
        · omega
        · rcases HRR.out.2.2.2.2.2.2.2.1 w.heap.size (by simp [hh]) with g | g
          · have := HL.out w.heap.size (by simp [g]); omega
          · omega
      have hHl : w.heap.size < wr.heap.size := (Array.getElem?_eq_some_iff.1 hbx).1
      rw [hho] at hh0 hfz
      have Hho := Lib.hid hho
      simp only [hho]
      clear hho hbx
      cases s with
      | nil =>
        simp only [ptr_nil, ptr_node] at hh0
        go_upto_region 15 with (fail)
        have hF := HRR.out.fresh HL.out
        rw [Hho.out, setCell_alloc_comm hgl] at hF
        generalize (wr.setCell ⟨g, o, none⟩ (.pointer (some ⟨wr.heap.size, 0, none⟩))).alloc (.cells #[.pointer none, .pointer none, .int .i64 0, .bool false] 106) = wx at hF ⊢
        obtain ⟨sg, sl, sr, sv, sh, hF⟩ : ∃ sg sl sr sv sh, PutRel w wx tb z t a b w.heap.size n k (.node sg sl sr sv sh) := ⟨_, _, _, _, _, hF⟩
        have HF := Lib.hid hF
        clear hF hh0 hfz hgl
        have hbx := HF.out.2.2.2.2.2.1
        have hHl : w.heap.size < wx.heap.size := (Array.getElem?_eq_some_iff.1 hbx).1
        have hb0 : wx.cell? ⟨w.heap.size, 0, none⟩ = some (.int .u32 a) := cell_of_row wx w.heap.size 0 _ 25 (0, 0) hbx
        have hb1 : wx.cell? ⟨w.heap.size, 1, none⟩ = some (.int .i64 b) := cell_of_row wx w.heap.size 1 _ 25 (0, 0) hbx
        obtain ⟨hh0, hfz⟩ := KRep.cell HF.out.2.1
        rw [Hho.out, ptr_node] at hh0
        rw [Hho.out] at hfz
        have hgl := HF.out.2.1.lt g hgm
        clear hbx
        by_cases hnb : n < b
        · have hne : ((n : Int) == (b : Int)) = false := by rw [beq_eq_false_iff_ne]; omega
          have Hd := Lib.hid HF.out.down
          cases hbit : bitB a n with
          | false =>
            rw [hbit] at Hd
            have Hb := Lib.hid hbit
            clear hbit
            go_wp2_with fail
            go_quiet ((go_at_call 80; exact Calls.quiet_of_same (bit_false a n _ ha (by omega) Hb.out)))
            go_wp2_with fail
            go_roundw
            case rel => exact ⟨n + 1, _, _, by omega, by go_num, rfl, Hd.out.drewN _⟩
            case measure => simp [intOf]; omega
          | true =>
            rw [hbit] at Hd
            have Hb := Lib.hid hbit
            clear hbit
            go_wp2_with fail
            go_quiet ((go_at_call 80; exact Calls.quiet_of_same (bit_true a n _ ha (by omega) Hb.out)))
            go_wp2_with fail
            go_roundw
            case rel => exact ⟨n + 1, _, _, by omega, by go_num, rfl, Hd.out.drewN _⟩
            case measure => simp [intOf]; omega
        · obtain rfl : n = b := by omega
          obtain ⟨q1, q2, q3, q4, q5, q6, q7, q8, q9⟩ := HF.out
          have hsgl := q3.lt sg (by simp [dom])
          have hsk : sg ∉ tb :: kdom k := by
            intro hx
            simp only [List.nodup_cons, List.mem_append, not_or, List.nodup_append, AT.dom, List.mem_cons] at q4 hx
            rcases hx with rfl | hx
            · exact q4.1.2.1 rfl
            · exact q4.2.2.2 sg hx sg (.inl rfl) rfl
          have hgs : g ≠ sg := by rintro rfl; exact hsk hgm
          have htbs : tb ≠ sg := by rintro rfl; exact hsk (by simp)
          have hn2 : (AT.dom (.node sg sl sr sv sh)).Nodup := (List.nodup_append.1 (List.nodup_cons.1 q4).2).2.1
          obtain ⟨c0, c1, c2, c3⟩ := cell_node q3
          have f2 : wx.frozen? ⟨sg, 2, none⟩ = false := by simp [World.frozen?, q3.1]
          have f3 : wx.frozen? ⟨sg, 3, none⟩ = false := by simp [World.frozen?, q3.1]
          have Hq := Lib.hid (And.intro q1 (And.intro q2 (And.intro q3 (And.intro q4 (And.intro q5 (And.intro q6 (And.intro q7 (And.intro q8 q9))))))))
          clear q1 q2 q3 q4 q5 q6 q7 q8 q9 c0 c1
          go_wp2_with fail
          go_region
          obtain ⟨q1, q2, q3, q4, q5, q6, q7, q8, q9⟩ := Hq.out
          have hTy : TR ((wx.setCell ⟨sg, 2, none⟩ (.int .i64 v)).setCell ⟨sg, 3, none⟩ (.bool true)).drew tb z (plug k (.node sg sl sr v true)) :=
            TR.of_plug (((q2.far (q := ⟨sg, 2, none⟩) hsk (.int .i64 v)).far (q := ⟨sg, 3, none⟩) hsk (.bool true)).keep fun _ _ => rfl) (((q3.mark hn2 v).mark3 hn2 true).keep fun _ _ => rfl) q4
          have hKy : Kp (tb :: t.dom) w ((wx.setCell ⟨sg, 2, none⟩ (.int .i64 v)).setCell ⟨sg, 3, none⟩ (.bool true)).drew := by
            have hsgm : sg ∈ tb :: t.dom ∨ w.heap.size ≤ sg := by
              rcases q8 sg (by simp [dom]) with h | h
              · exact .inl (by simp [h])
              · exact .inr (by omega)
            exact ((q7.setCell (p := ⟨sg, 2, none⟩) hsgm _).setCell (p := ⟨sg, 3, none⟩) hsgm _).drew
          have hget := fun q => get_plug_set (v' := v) (h' := true) (path a n) q1 q5 q
          have hdm : ∀ x, x ∈ (plug k (.node sg sl sr v true)).dom → x ∈ t.dom ∨ w.heap.size ≤ x := by
            intro x hx
            rcases q8 x (by rw [mem_plug] at hx; exact List.mem_append.2 hx) with h | h
            · exact .inl h
            · exact .inr (by omega)
          clear q1 q2 q3 q4 q5 q6 q7 q8 q9
          have HTy := Lib.hid hTy
          have HKy := Lib.hid hKy
          have Hget := Lib.hid hget
          have Hdm := Lib.hid hdm
          clear hTy hKy hget hdm
          generalize ((wx.setCell ⟨sg, 2, none⟩ (.int .i64 v)).setCell ⟨sg, 3, none⟩ (.bool true)).drew = wy at HTy HKy ⊢
          have cy := (cell_root HTy.out.root).2
          have fy : wy.frozen? ⟨tb, 1, none⟩ = false := by simp [World.frozen?, show wy.heap[tb]? = _ from HTy.out.root]
          go_wp2_with fail
          go_ret
          exact ⟨rfl, _, z + 1, HTy.out.count _, by omega, by omega, by simpa using Hget.out, HKy.out.setCell (.inl (by simp)) _, Hdm.out⟩
      | node sg sl sr sv sh =>
        simp only [ptr_nil, ptr_node] at hh0
        go_upto_region 15 with (fail)
        have HF := HRR
        obtain ⟨wx, rfl⟩ : ∃ wx, wx = wr := ⟨_, rfl⟩
        clear hh0 hfz hgl
        have hbx := HF.out.2.2.2.2.2.1
        have hHl : w.heap.size < wx.heap.size := (Array.getElem?_eq_some_iff.1 hbx).1
        have hb0 : wx.cell? ⟨w.heap.size, 0, none⟩ = some (.int .u32 a) := cell_of_row wx w.heap.size 0 _ 25 (0, 0) hbx
        have hb1 : wx.cell? ⟨w.heap.size, 1, none⟩ = some (.int .i64 b) := cell_of_row wx w.heap.size 1 _ 25 (0, 0) hbx
        obtain ⟨hh0, hfz⟩ := KRep.cell HF.out.2.1
        rw [Hho.out, ptr_node] at hh0
        rw [Hho.out] at hfz
        have hgl := HF.out.2.1.lt g hgm
        clear hbx
        by_cases hnb : n < b
        · have hne : ((n : Int) == (b : Int)) = false := by rw [beq_eq_false_iff_ne]; omega
          have Hd := Lib.hid HF.out.down
          cases hbit : bitB a n with
          | false =>
            rw [hbit] at Hd
            have Hb := Lib.hid hbit
            clear hbit
            go_wp2_with fail
            go_quiet ((go_at_call 80; exact Calls.quiet_of_same (bit_false a n _ ha (by omega) Hb.out)))
            go_wp2_with fail
            go_roundw
            case rel => exact ⟨n + 1, _, _, by omega, by go_num, rfl, Hd.out.drewN _⟩
            case measure => simp [intOf]; omega
          | true =>
            rw [hbit] at Hd
            have Hb := Lib.hid hbit
            clear hbit
            go_wp2_with fail
            go_quiet ((go_at_call 80; exact Calls.quiet_of_same (bit_true a n _ ha (by omega) Hb.out)))
            go_wp2_with fail
            go_roundw
            case rel => exact ⟨n + 1, _, _, by omega, by go_num, rfl, Hd.out.drewN _⟩
            case measure => simp [intOf]; omega
        · obtain rfl : n = b := by omega
          obtain ⟨q1, q2, q3, q4, q5, q6, q7, q8, q9⟩ := HF.out
          have hsgl := q3.lt sg (by simp [dom])
          have hsk : sg ∉ tb :: kdom k := by
            intro hx
            simp only [List.nodup_cons, List.mem_append, not_or, List.nodup_append, AT.dom, List.mem_cons] at q4 hx
            rcases hx with rfl | hx
            · exact q4.1.2.1 rfl
            · exact q4.2.2.2 sg hx sg (.inl rfl) rfl
          have hgs : g ≠ sg := by rintro rfl; exact hsk hgm
          have htbs : tb ≠ sg := by rintro rfl; exact hsk (by simp)
          have hn2 : (AT.dom (.node sg sl sr sv sh)).Nodup := (List.nodup_append.1 (List.nodup_cons.1 q4).2).2.1
          obtain ⟨c0, c1, c2, c3⟩ := cell_node q3
          have f2 : wx.frozen? ⟨sg, 2, none⟩ = false := by simp [World.frozen?, q3.1]
          have f3 : wx.frozen? ⟨sg, 3, none⟩ = false := by simp [World.frozen?, q3.1]
          have Hq := Lib.hid (And.intro q1 (And.intro q2 (And.intro q3 (And.intro q4 (And.intro q5 (And.intro q6 (And.intro q7 (And.intro q8 q9))))))))
          clear q1 q2 q3 q4 q5 q6 q7 q8 q9 c0 c1
          go_wp2_with fail
          go_region
          obtain ⟨q1, q2, q3, q4, q5, q6, q7, q8, q9⟩ := Hq.out
          have hTy : TR ((wx.setCell ⟨sg, 2, none⟩ (.int .i64 v)).setCell ⟨sg, 3, none⟩ (.bool true)).drew tb z (plug k (.node sg sl sr v true)) :=
            TR.of_plug (((q2.far (q := ⟨sg, 2, none⟩) hsk (.int .i64 v)).far (q := ⟨sg, 3, none⟩) hsk (.bool true)).keep fun _ _ => rfl) (((q3.mark hn2 v).mark3 hn2 true).keep fun _ _ => rfl) q4
          have hKy : Kp (tb :: t.dom) w ((wx.setCell ⟨sg, 2, none⟩ (.int .i64 v)).setCell ⟨sg, 3, none⟩ (.bool true)).drew := by
            have hsgm : sg ∈ tb :: t.dom ∨ w.heap.size ≤ sg := by
              rcases q8 sg (by simp [dom]) with h | h
              · exact .inl (by simp [h])
              · exact .inr (by omega)
            exact ((q7.setCell (p := ⟨sg, 2, none⟩) hsgm _).setCell (p := ⟨sg, 3, none⟩) hsgm _).drew
          have hget := fun q => get_plug_set (v' := v) (h' := true) (path a n) q1 q5 q
          have hdm : ∀ x, x ∈ (plug k (.node sg sl sr v true)).dom → x ∈ t.dom ∨ w.heap.size ≤ x := by
            intro x hx
            rcases q8 x (by rw [mem_plug] at hx; exact List.mem_append.2 hx) with h | h
            · exact .inl h
            · exact .inr (by omega)
          clear q1 q2 q3 q4 q5 q6 q7 q8 q9
          have HTy := Lib.hid hTy
          have HKy := Lib.hid hKy
          have Hget := Lib.hid hget
          have Hdm := Lib.hid hdm
          clear hTy hKy hget hdm
          generalize ((wx.setCell ⟨sg, 2, none⟩ (.int .i64 v)).setCell ⟨sg, 3, none⟩ (.bool true)).drew = wy at HTy HKy ⊢
          have cy := (cell_root HTy.out.root).2
          have fy : wy.frozen? ⟨tb, 1, none⟩ = false := by simp [World.frozen?, show wy.heap[tb]? = _ from HTy.out.root]
          go_wp2_with fail
          go_ret
          exact ⟨rfl, _, z + 1, HTy.out.count _, by omega, by omega, by simpa using Hget.out, HKy.out.setCell (.inl (by simp)) _, Hdm.out⟩
  · obtain ⟨c0, c1, c2, c3⟩ := cell_node hs
    simp only [ptr_nil, ptr_node]
    go_wp2_with fail
    go_loopw [9, 10] (fun tp i wr => ∃ (n : Nat) (k : List Fr) (s : AT), n ≤ b ∧ i = .int .i64 n ∧ tp = .pointer (some (hole tb k)) ∧ PutRel w wr tb z t a b w.heap.size n k s) (fun _ i _ => b + 1 - (intOf i).toNat)
    case atStart => exact ⟨0, [], t, by omega, rfl, rfl, HRel.out⟩
    case round =>
      obtain ⟨n, k, s, hn, rfl, rfl, hR⟩ := hrel
      have HRR := Lib.hid hR
      clear hR
      obtain ⟨hh0, hfz⟩ := KRep.cell HRR.out.2.1
      obtain ⟨g, o, hho, hgm⟩ := hole_eq tb k
      have hgl := HRR.out.2.1.lt g hgm
      have hbx := HRR.out.2.2.2.2.2.1
      have hgH : g ≠ w.heap.size := by
        intro e
        subst e
        simp only [List.mem_cons] at hgm
        rcases hgm with hh | hh
        · omega
        · rcases HRR.out.2.2.2.2.2.2.2.1 w.heap.size (by simp [hh]) with g | g
          · have := HL.out w.heap.size (by simp [g]); omega
          · omega
      have hHl : w.heap.size < wr.heap.size := (Array.getElem?_eq_some_iff.1 hbx).1
      rw [hho] at hh0 hfz
      have Hho := Lib.hid hho
      simp only [hho]
      clear hho hbx
      cases s with
      | nil =>
        simp only [ptr_nil, ptr_node] at hh0
        go_upto_region 15 with (fail)
        have hF := HRR.out.fresh HL.out
        rw [Hho.out, setCell_alloc_comm hgl] at hF
        generalize (wr.setCell ⟨g, o, none⟩ (.pointer (some ⟨wr.heap.size, 0, none⟩))).alloc (.cells #[.pointer none, .pointer none, .int .i64 0, .bool false] 106) = wx at hF ⊢
        obtain ⟨sg, sl, sr, sv, sh, hF⟩ : ∃ sg sl sr sv sh, PutRel w wx tb z t a b w.heap.size n k (.node sg sl sr sv sh) := ⟨_, _, _, _, _, hF⟩
        have HF := Lib.hid hF
        clear hF hh0 hfz hgl
        have hbx := HF.out.2.2.2.2.2.1
        have hHl : w.heap.size < wx.heap.size := (Array.getElem?_eq_some_iff.1 hbx).1
        have hb0 : wx.cell? ⟨w.heap.size, 0, none⟩ = some (.int .u32 a) := cell_of_row wx w.heap.size 0 _ 25 (0, 0) hbx
        have hb1 : wx.cell? ⟨w.heap.size, 1, none⟩ = some (.int .i64 b) := cell_of_row wx w.heap.size 1 _ 25 (0, 0) hbx
        obtain ⟨hh0, hfz⟩ := KRep.cell HF.out.2.1
        rw [Hho.out, ptr_node] at hh0
        rw [Hho.out] at hfz
        have hgl := HF.out.2.1.lt g hgm
        clear hbx
        by_cases hnb : n < b
        · have hne : ((n : Int) == (b : Int)) = false := by rw [beq_eq_false_iff_ne]; omega
          have Hd := Lib.hid HF.out.down
          cases hbit : bitB a n with
          | false =>
            rw [hbit] at Hd
            have Hb := Lib.hid hbit
            clear hbit
            go_wp2_with fail
            go_quiet ((go_at_call 80; exact Calls.quiet_of_same (bit_false a n _ ha (by omega) Hb.out)))
            go_wp2_with fail
            go_roundw
            case rel => exact ⟨n + 1, _, _, by omega, by go_num, rfl, Hd.out.drewN _⟩
            case measure => simp [intOf]; omega
          | true =>
            rw [hbit] at Hd
            have Hb := Lib.hid hbit
            clear hbit
            go_wp2_with fail
            go_quiet ((go_at_call 80; exact Calls.quiet_of_same (bit_true a n _ ha (by omega) Hb.out)))
            go_wp2_with fail
            go_roundw
            case rel => exact ⟨n + 1, _, _, by omega, by go_num, rfl, Hd.out.drewN _⟩
            case measure => simp [intOf]; omega
        · obtain rfl : n = b := by omega
          obtain ⟨q1, q2, q3, q4, q5, q6, q7, q8, q9⟩ := HF.out
          have hsgl := q3.lt sg (by simp [dom])
          have hsk : sg ∉ tb :: kdom k := by
            intro hx
            simp only [List.nodup_cons, List.mem_append, not_or, List.nodup_append, AT.dom, List.mem_cons] at q4 hx
            rcases hx with rfl | hx
            · exact q4.1.2.1 rfl
            · exact q4.2.2.2 sg hx sg (.inl rfl) rfl
          have hgs : g ≠ sg := by rintro rfl; exact hsk hgm
          have htbs : tb ≠ sg := by rintro rfl; exact hsk (by simp)
          have hn2 : (AT.dom (.node sg sl sr sv sh)).Nodup := (List.nodup_append.1 (List.nodup_cons.1 q4).2).2.1
          obtain ⟨c0, c1, c2, c3⟩ := cell_node q3
          have f2 : wx.frozen? ⟨sg, 2, none⟩ = false := by simp [World.frozen?, q3.1]
          have f3 : wx.frozen? ⟨sg, 3, none⟩ = false := by simp [World.frozen?, q3.1]
          have Hq := Lib.hid (And.intro q1 (And.intro q2 (And.intro q3 (And.intro q4 (And.intro q5 (And.intro q6 (And.intro q7 (And.intro q8 q9))))))))
          clear q1 q2 q3 q4 q5 q6 q7 q8 q9 c0 c1
          go_wp2_with fail
          go_region
          obtain ⟨q1, q2, q3, q4, q5, q6, q7, q8, q9⟩ := Hq.out
          have hTy : TR ((wx.setCell ⟨sg, 2, none⟩ (.int .i64 v)).setCell ⟨sg, 3, none⟩ (.bool true)).drew tb z (plug k (.node sg sl sr v true)) :=
            TR.of_plug (((q2.far (q := ⟨sg, 2, none⟩) hsk (.int .i64 v)).far (q := ⟨sg, 3, none⟩) hsk (.bool true)).keep fun _ _ => rfl) (((q3.mark hn2 v).mark3 hn2 true).keep fun _ _ => rfl) q4
          have hKy : Kp (tb :: t.dom) w ((wx.setCell ⟨sg, 2, none⟩ (.int .i64 v)).setCell ⟨sg, 3, none⟩ (.bool true)).drew := by
            have hsgm : sg ∈ tb :: t.dom ∨ w.heap.size ≤ sg := by
              rcases q8 sg (by simp [dom]) with h | h
              · exact .inl (by simp [h])
              · exact .inr (by omega)
            exact ((q7.setCell (p := ⟨sg, 2, none⟩) hsgm _).setCell (p := ⟨sg, 3, none⟩) hsgm _).drew
          have hget := fun q => get_plug_set (v' := v) (h' := true) (path a n) q1 q5 q
          have hdm : ∀ x, x ∈ (plug k (.node sg sl sr v true)).dom → x ∈ t.dom ∨ w.heap.size ≤ x := by
            intro x hx
            rcases q8 x (by rw [mem_plug] at hx; exact List.mem_append.2 hx) with h | h
            · exact .inl h
            · exact .inr (by omega)
          clear q1 q2 q3 q4 q5 q6 q7 q8 q9
          have HTy := Lib.hid hTy
          have HKy := Lib.hid hKy
          have Hget := Lib.hid hget
          have Hdm := Lib.hid hdm
          clear hTy hKy hget hdm
          generalize ((wx.setCell ⟨sg, 2, none⟩ (.int .i64 v)).setCell ⟨sg, 3, none⟩ (.bool true)).drew = wy at HTy HKy ⊢
          have cy := (cell_root HTy.out.root).2
          have fy : wy.frozen? ⟨tb, 1, none⟩ = false := by simp [World.frozen?, show wy.heap[tb]? = _ from HTy.out.root]
          go_wp2_with fail
          go_ret
          exact ⟨rfl, _, z + 1, HTy.out.count _, by omega, by omega, by simpa using Hget.out, HKy.out.setCell (.inl (by simp)) _, Hdm.out⟩
      | node sg sl sr sv sh =>
        simp only [ptr_nil, ptr_node] at hh0
        go_upto_region 15 with (fail)
        have HF := HRR
        obtain ⟨wx, rfl⟩ : ∃ wx, wx = wr := ⟨_, rfl⟩
        clear hh0 hfz hgl
        have hbx := HF.out.2.2.2.2.2.1
        have hHl : w.heap.size < wx.heap.size := (Array.getElem?_eq_some_iff.1 hbx).1
        have hb0 : wx.cell? ⟨w.heap.size, 0, none⟩ = some (.int .u32 a) := cell_of_row wx w.heap.size 0 _ 25 (0, 0) hbx
        have hb1 : wx.cell? ⟨w.heap.size, 1, none⟩ = some (.int .i64 b) := cell_of_row wx w.heap.size 1 _ 25 (0, 0) hbx
        obtain ⟨hh0, hfz⟩ := KRep.cell HF.out.2.1
        rw [Hho.out, ptr_node] at hh0
        rw [Hho.out] at hfz
        have hgl := HF.out.2.1.lt g hgm
        clear hbx
        by_cases hnb : n < b
        · have hne : ((n : Int) == (b : Int)) = false := by rw [beq_eq_false_iff_ne]; omega
          have Hd := Lib.hid HF.out.down
          cases hbit : bitB a n with
          | false =>
            rw [hbit] at Hd
            have Hb := Lib.hid hbit
            clear hbit
            go_wp2_with fail
            go_quiet ((go_at_call 80; exact Calls.quiet_of_same (bit_false a n _ ha (by omega) Hb.out)))
            go_wp2_with fail
            go_roundw
            case rel => exact ⟨n + 1, _, _, by omega, by go_num, rfl, Hd.out.drewN _⟩
            case measure => simp [intOf]; omega
          | true =>
            rw [hbit] at Hd
            have Hb := Lib.hid hbit
            clear hbit
            go_wp2_with fail
            go_quiet ((go_at_call 80; exact Calls.quiet_of_same (bit_true a n _ ha (by omega) Hb.out)))
            go_wp2_with fail
            go_roundw
            case rel => exact ⟨n + 1, _, _, by omega, by go_num, rfl, Hd.out.drewN _⟩
            case measure => simp [intOf]; omega
        · obtain rfl : n = b := by omega
          obtain ⟨q1, q2, q3, q4, q5, q6, q7, q8, q9⟩ := HF.out
          have hsgl := q3.lt sg (by simp [dom])
          have hsk : sg ∉ tb :: kdom k := by
            intro hx
            simp only [List.nodup_cons, List.mem_append, not_or, List.nodup_append, AT.dom, List.mem_cons] at q4 hx
            rcases hx with rfl | hx
            · exact q4.1.2.1 rfl
            · exact q4.2.2.2 sg hx sg (.inl rfl) rfl
          have hgs : g ≠ sg := by rintro rfl; exact hsk hgm
          have htbs : tb ≠ sg := by rintro rfl; exact hsk (by simp)
          have hn2 : (AT.dom (.node sg sl sr sv sh)).Nodup := (List.nodup_append.1 (List.nodup_cons.1 q4).2).2.1
          obtain ⟨c0, c1, c2, c3⟩ := cell_node q3
          have f2 : wx.frozen? ⟨sg, 2, none⟩ = false := by simp [World.frozen?, q3.1]
          have f3 : wx.frozen? ⟨sg, 3, none⟩ = false := by simp [World.frozen?, q3.1]
          have Hq := Lib.hid (And.intro q1 (And.intro q2 (And.intro q3 (And.intro q4 (And.intro q5 (And.intro q6 (And.intro q7 (And.intro q8 q9))))))))
          clear q1 q2 q3 q4 q5 q6 q7 q8 q9 c0 c1
          go_wp2_with fail
          go_region
          obtain ⟨q1, q2, q3, q4, q5, q6, q7, q8, q9⟩ := Hq.out
          have hTy : TR ((wx.setCell ⟨sg, 2, none⟩ (.int .i64 v)).setCell ⟨sg, 3, none⟩ (.bool true)).drew tb z (plug k (.node sg sl sr v true)) :=
            TR.of_plug (((q2.far (q := ⟨sg, 2, none⟩) hsk (.int .i64 v)).far (q := ⟨sg, 3, none⟩) hsk (.bool true)).keep fun _ _ => rfl) (((q3.mark hn2 v).mark3 hn2 true).keep fun _ _ => rfl) q4
          have hKy : Kp (tb :: t.dom) w ((wx.setCell ⟨sg, 2, none⟩ (.int .i64 v)).setCell ⟨sg, 3, none⟩ (.bool true)).drew := by
            have hsgm : sg ∈ tb :: t.dom ∨ w.heap.size ≤ sg := by
              rcases q8 sg (by simp [dom]) with h | h
              · exact .inl (by simp [h])
              · exact .inr (by omega)
            exact ((q7.setCell (p := ⟨sg, 2, none⟩) hsgm _).setCell (p := ⟨sg, 3, none⟩) hsgm _).drew
          have hget := fun q => get_plug_set (v' := v) (h' := true) (path a n) q1 q5 q
          have hdm : ∀ x, x ∈ (plug k (.node sg sl sr v true)).dom → x ∈ t.dom ∨ w.heap.size ≤ x := by
            intro x hx
            rcases q8 x (by rw [mem_plug] at hx; exact List.mem_append.2 hx) with h | h
            · exact .inl h
            · exact .inr (by omega)
          clear q1 q2 q3 q4 q5 q6 q7 q8 q9
          have HTy := Lib.hid hTy
          have HKy := Lib.hid hKy
          have Hget := Lib.hid hget
          have Hdm := Lib.hid hdm
          clear hTy hKy hget hdm
          generalize ((wx.setCell ⟨sg, 2, none⟩ (.int .i64 v)).setCell ⟨sg, 3, none⟩ (.bool true)).drew = wy at HTy HKy ⊢
          have cy := (cell_root HTy.out.root).2
          have fy : wy.frozen? ⟨tb, 1, none⟩ = false := by simp [World.frozen?, show wy.heap[tb]? = _ from HTy.out.root]
          go_wp2_with fail
          go_ret
          exact ⟨rfl, _, z + 1, HTy.out.count _, by omega, by omega, by simpa using Hget.out, HKy.out.setCell (.inl (by simp)) _, Hdm.out⟩

/-- Put, whatever the table: an invalid prefix is refused, else the table holds the entry. -/
theorem put_any (tb : Nat) (t : AT) (z : Int) (a : Nat) (b v : Int) (w : World) (ha : a < 4294967296) (hT : TR w tb z t) (hz : z < 256) (hz0 : 0 ≤ z) :
    Calls Tryd.prog 24 #[.pointer (some ⟨tb, 0, none⟩), .agg #[.int .u32 a, .int .i64 b], .int .i64 v] w fun e w' =>
      (chkE a b = 0 ∧ PutPost w tb z t a b.toNat v e w') ∨ (chkE a b ≠ 0 ∧ e = .returned (.int .i64 (chkE a b)) ∧ Below w.heap.size w w') := by
  by_cases hc : chkE a b = 0
  · obtain ⟨h0, h1, _⟩ := chkE_zero.1 hc
    obtain ⟨b, rfl⟩ := Int.eq_ofNat_of_zero_le h0
    cases hs : t.sub (path a b) with
    | nil => exact (put_new tb t z a b v w ha hc hT hz hz0 (.inl hs)).mono fun e w' h => .inl ⟨hc, h⟩
    | node g l r v0 hh =>
      cases hh
      · exact (put_new tb t z a b v w ha hc hT hz hz0 (.inr ⟨g, l, r, v0, hs⟩)).mono fun e w' h => .inl ⟨hc, h⟩
      · exact (put_old tb t z a b v w ha hc hT g l r v0 hs).mono fun e w' h => .inl ⟨hc, h⟩
  · have Hc := Lib.hid hc
    have Hd : (chkE a b != 0) = true := by simpa using hc
    clear hc
    go_enter Tryd.func24, Tryd.ntmps24
    go_wp2_with fail
    refine (check_any a b _ ha).mono ?_
    rintro e w1 ⟨rfl, hb⟩
    go_wp2_with fail
    go_ret
    exact .inr ⟨Hc.out, rfl, bthen ((Below.refl _ _).alloc (Nat.le_refl _) _) (by simp) hb⟩
end Go.Proofs.YtaknlphmplimhaaDoor
