/-
  Package dimacs: Format.
-/
import Derived.Test.YtfllhhgnflpagaaDoorDmF
import Derived.Test.YtfllhhgnflpagaaDoorRegA
import Derived.Test.YtfllhhgnflpagaaDoorDmS
import Derived.Lib.ItoaLen
import Derived.Lib.SlBytesConst
namespace Go.Proofs.YtfllhhgnflpagaaDoor
set_option linter.unusedSimpArgs false
set_option linter.unusedVariables false
open Go.RowKit Go.Shelf
attribute [local go_sem] Oper.semAt_some

/-- The text under way: a row of the call's own. -/
def FS (w1 W : World) (v : Value) (out : Bs) : Prop := RowM w1.heap.size W v out.length (Lib.byteCells out) ∧ Below w1.heap.size w1 W
theorem FS.bel {w1 W : World} {v : Value} {out : Bs} (h : FS w1 W v out) : Below w1.heap.size w1 W := h.2
theorem FS.row {w1 W : World} {v : Value} {out : Bs} (h : FS w1 W v out) : RowM w1.heap.size W v out.length (Lib.byteCells out) := h.1
theorem FS.op {w1 W : World} {v : Value} {out : Bs} (h : FS w1 W v out) : ∃ p c, v = .slice p out.length c := h.1.slice
theorem FS.drew {w1 W : World} {v : Value} {out : Bs} (h : FS w1 W v out) : FS w1 W.drew v out := ⟨h.1.keep (Nat.le_refl _) fun _ _ => rfl, h.2.drew⟩
theorem FS.alloc {w1 W : World} {v : Value} {out : Bs} (h : FS w1 W v out) (o : Obj) : FS w1 (W.alloc o) v out := ⟨h.1.below ((Below.refl _ _).alloc (Nat.le_refl _) _), h.2.alloc h.2.size o⟩
theorem byteCells_app (a b : Bs) : Lib.byteCells (a ++ b) = Lib.byteCells a ++ Lib.byteCells b := by simp [Lib.byteCells]
theorem FS.grown {w1 W W' : World} {v v' : Value} {out ys : Bs} {m : Nat} (h : FS w1 W v out) (hm : m = ys.length) {news : List Value} (hn : news = Lib.byteCells ys) (ho : RowM w1.heap.size W' v' (out.length + m) (Lib.byteCells out ++ news)) (hg : W.grownBy W' v.ownBlock) : FS w1 W' v' (out ++ ys) := by
  subst hm hn
  refine ⟨by rw [List.length_append, byteCells_app]; exact ho, h.2.grown hg h.2.size fun k hk => (h.1.lt k hk).1⟩
theorem FS.int {w1 W : World} {v : Value} {out : Bs} (h : FS w1 W v out) (i : Int) (h0 : -9223372036854775808 ≤ i) (h1 : i ≤ 9223372036854775807) (hl : out.length + 21 ≤ 140737488355328) (ht : Lib.TabIs Tryd.prog w1 "internal/strconv.uint64pow10" .u64 Lib.pow10Tab) :
    Calls Tryd.prog 22 #[v, .int .i64 i, .int .i64 10] W fun e W' => ∃ v', e = .returned v' ∧ FS w1 W' v' (out ++ Lib.itoa i) ∧ W.grownBy W' v.ownBlock := by
  refine (appint_any w1.heap.size out.length i h0 h1 v _ W h.1 h.2.size hl ((Lib.tabBelow_of_tabIs ht).on h.2)).mono ?_
  rintro e W' ⟨v', rfl, ho, hg⟩
  exact ⟨v', rfl, h.grown (byteCells_len _).symm.symm rfl (by rw [byteCells_len] at ho ⊢; exact ho) hg, hg⟩
/-- A block of one byte is not the row, if that has two or more. -/
theorem own_ne1 {B : Nat} {W : World} {v : Value} {n b : Nat} {xs : List Value} {u : Value} {t : TypeId} {z : Nat × Nat} (h : RowM B W v n xs) (hn : 2 ≤ n) (hb : W.heap[b]? = some (.cells #[u] t z)) : v.ownBlock ≠ some b := by
  obtain ⟨g, cap, rfl, h1, h2, h3, h4, h5, h6, h7⟩ := h
  intro e
  cases e
  have := (h7 1 (by omega)).1
  simp [World.cell?, hb] at this
def Lt (W : World) (b : Nat) (u : UInt8) : Prop := W.heap[b]? = some (.cells #[.int .u8 (u.toNat : Int)] 5 (0, 0))
theorem Lt.new (W : World) (u : UInt8) : Lt (W.alloc (.cells #[.int .u8 (u.toNat : Int)] 5)) W.heap.size u := by unfold Lt; rw [heap_al, if_pos rfl]
theorem Lt.alloc {W : World} {b : Nat} {u : UInt8} (h : Lt W b u) (o : Obj) : Lt (W.alloc o) b u := by
  have := (Array.getElem?_eq_some_iff.1 h).1
  unfold Lt; rw [heap_al, if_neg (by omega)]; exact h
theorem Lt.grown {W W' : World} {b : Nat} {u : UInt8} {v : Value} (h : Lt W b u) (hg : W.grownBy W' v.ownBlock) (hne : v.ownBlock ≠ some b) : Lt W' b u :=
  (hg.block b (Array.getElem?_eq_some_iff.1 h).1 (fun e => hne e.symm)).trans h
theorem Lt.row {W : World} {b : Nat} {u : UInt8} (h : Lt W b u) : RowR (· = b) W (some ⟨b, 0, none⟩) (Lib.byteCells [u]) := .inr ⟨b, 0, rfl, rfl, fun j hj => by
  obtain rfl : j = 0 := by simpa [Lib.byteCells] using hj
  rw [(cell_lit1 h).1]; simp [Lib.byteCells]⟩
theorem one_cells (l : Bs) : ∀ u ∈ Lib.byteCells l, u.oneCell' = true := by simp [Lib.byteCells, Value.oneCell']
theorem Lt.src {W : World} {b : Nat} {u : UInt8} (h : Lt W b u) : Src Tryd.prog 1 37 (.slice (some ⟨b, 0, none⟩) 1 1) 1 (Lib.byteCells [u]) W := src_row Tryd.underlying37 h.row rfl (one_cells _)
theorem FS.lit (w1 : World) (l : Bs) (h : l.length ≤ 4096) : FS w1 (w1.alloc (.cells (Lib.byteCells l).toArray 5)) (.slice (some ⟨w1.heap.size, 0, none⟩) l.length l.length) l := by
  have := RowM.new (B := w1.heap.size) (w := w1) (w' := w1.alloc (.cells (Lib.byteCells l).toArray 5)) (xs := Lib.byteCells l) (rest := []) (e := 5) (fz := (0, 0)) (Nat.le_refl _) (by rw [heap_al, if_pos rfl]; simp) (.inl rfl) (by rw [List.append_nil, byteCells_len]; unfold maxLen; omega)
  rw [List.append_nil, byteCells_len] at this
  exact ⟨this, (Below.refl _ _).alloc (Nat.le_refl _) _⟩

/-! ### plain -/
theorem itoa_len (i : Int) (h0 : -9223372036854775808 ≤ i) (h1 : i ≤ 9223372036854775807) : (Lib.itoa i).length ≤ 21 := Lib.itoa_length_le i h0 h1
theorem checkM_ok {n : Int} {l : List (List Int)} (h : checkM n l = 0) : 0 ≤ n ∧ n ≤ 1048576 ∧ l.length ≤ 1048576 ∧ litsM n l = 0 := by
  unfold checkM at h
  split at h
  · cases h
  · split at h
    · cases h
    · rename_i h1 h2
      exact ⟨by omega, by omega, by omega, h⟩
theorem litM_ok2 {n : Int} {c : List Int} (h : litM n c = 0) : c.length ≤ 4096 ∧ ∀ a ∈ c, a ≠ 0 ∧ (a.natAbs : Int) ≤ n := by
  unfold litM at h
  split at h
  · cases h
  · split at h
    · cases h
    · rename_i h2
      split at h
      · cases h
      · rename_i h3
        refine ⟨by omega, fun a ha => ?_⟩
        have h4 : c.any (fun a => a == 0 || decide (n < a.natAbs)) = false := by simpa using h3
        rw [List.any_eq_false] at h4
        have := h4 a ha
        simp at this
        exact ⟨this.1, by omega⟩
theorem litsM_ok2 {n : Int} : ∀ {l : List (List Int)}, litsM n l = 0 → ∀ c ∈ l, litM n c = 0
  | [], _, c, hc => by cases hc
  | c :: r, h, d, hd => by
    unfold litsM at h
    split at h
    · rename_i h1; exact absurd h h1
    · rename_i h1
      rcases List.mem_cons.1 hd with rfl | hd
      · by_cases h2 : litM n d = 0
        · exact h2
        · exact absurd h2 h1
      · exact litsM_ok2 h d hd

theorem FS.lit0 (w1 : World) (l : Bs) (h : l.length ≤ 4096) : FS w1 (w1.alloc (.cells (Lib.byteCells l).toArray 5 (l.length, l.length + 1))) (.slice (some ⟨w1.heap.size, 0, none⟩) l.length l.length) l := by
  have := RowM.new (B := w1.heap.size) (w := w1) (w' := w1.alloc (.cells (Lib.byteCells l).toArray 5 (l.length, l.length + 1))) (xs := Lib.byteCells l) (rest := []) (e := 5) (fz := (l.length, l.length + 1)) (Nat.le_refl _) (by rw [heap_al, if_pos rfl]; simp) (.inr (by simp [Lib.byteCells])) (by rw [List.append_nil, byteCells_len]; unfold maxLen; omega)
  rw [List.append_nil, byteCells_len] at this
  exact ⟨this, (Below.refl _ _).alloc (Nat.le_refl _) _⟩

theorem FS.lit6 (w1 : World) : FS w1 (w1.alloc (.cells (Lib.byteCells [112, 32, 99, 110, 102, 32]).toArray 5 (6, 7))) (.slice (some ⟨w1.heap.size, 0, none⟩) 6 6) [112, 32, 99, 110, 102, 32] := FS.lit0 w1 [112, 32, 99, 110, 102, 32] (by simp)
theorem conv6 (w2 : World) : (convert 37 37 (.slice (some ⟨w2.heap.size, 0, none⟩) 6 6)).run Tryd.prog (w2.alloc (.cells #[.int .u8 112, .int .u8 32, .int .u8 99, .int .u8 110, .int .u8 102, .int .u8 32] 5)) = .ok (.slice (some ⟨w2.heap.size, 0, none⟩) 6 6) (w2.alloc (.cells (Lib.byteCells [112, 32, 99, 110, 102, 32]).toArray 5 (6, 7))) :=
  Lib.run_convert_bytes_const (P := Tryd.prog) w2 37 5 #[.int .u8 112, .int .u8 32, .int .u8 99, .int .u8 110, .int .u8 102, .int .u8 32] 6 6 Tryd.underlying37 Tryd.underlying5
theorem src2 (W : World) (a b : UInt8) : Src Tryd.prog 1 37 (.slice (some ⟨W.heap.size, 0, none⟩) 2 2) 2 (Lib.byteCells [a, b]) (W.alloc (.cells #[.int .u8 (a.toNat : Int), .int .u8 (b.toNat : Int)] 5)) :=
  src_row Tryd.underlying37 (RowR.lit W (Lib.byteCells [a, b]) 5 (R := fun _ => True) trivial) rfl (one_cells _)
theorem formatM_ok {n : Int} {cls : List (List Int)} (h : checkM n cls = 0) {out : Bs} (ho : out = textM n cls) (hl : out.length ≤ 65536) : formatM n cls = (out, 0) := by
  unfold formatM
  rw [if_neg (by rw [h]; simp), ← ho, if_neg (by omega)]
theorem formatM_long {n : Int} {cls : List (List Int)} (h : checkM n cls = 0) (k : Nat) (hl : 65536 < (headT n cls.length ++ (cls.take k).flatMap clauseT).length) : formatM n cls = ([], 5) := by
  unfold formatM
  rw [if_neg (by rw [h]; simp), if_pos]
  have e : cls.flatMap clauseT = (cls.take k).flatMap clauseT ++ (cls.drop k).flatMap clauseT := by rw [← List.flatMap_append, List.take_append_drop]
  unfold textM
  rw [e, ← List.append_assoc, List.length_append]
  omega
/-! WALK -/
set_option maxRecDepth 100000 in
set_option maxHeartbeats 4000000 in
theorem format_any (n : Int) (cls : List (List Int)) (v : Value) (w : World) (hv : LL (· < w.heap.size) w v cls) (hb : ∀ c ∈ cls, ∀ a ∈ c, -9223372036854775808 ≤ a ∧ a ≤ 9223372036854775807) (hn0 : -9223372036854775808 ≤ n) (hn1 : n ≤ 9223372036854775807) (hE : Env w) :
    Calls Tryd.prog 13 #[.agg #[.int .i64 n, v]] w fun e w' => e = .returned (.tuple #[.string ⟨(formatM n cls).1.toArray⟩, .int .i64 (formatM n cls).2]) ∧ Below w.heap.size w w' := by
  obtain ⟨w1, hw1⟩ : ∃ w1, w.alloc (.cells #[.int .i64 n, v] 24) = w1 := ⟨_, rfl⟩
  have hb1 : Below w.heap.size w w1 := by rw [← hw1]; exact (Below.refl _ _).alloc (Nat.le_refl _) _
  have hs1 : w1.heap.size = w.heap.size + 1 := by rw [← hw1]; simp
  have hc := ccheck_any n cls v w1 (hv.keep fun k hk => ⟨Nat.lt_of_lt_of_le hk hb1.size, hb1.block k hk⟩) hb hn0 hn1
  obtain ⟨e0, he0⟩ : ∃ e0, checkM n cls = e0 := ⟨_, rfl⟩
  rw [he0] at hc
  obtain ⟨vs, ⟨p, cap, rfl, h1, h2, h3, hr⟩, hl, hx⟩ := hv
  obtain ⟨L, hL⟩ : ∃ L, vs.length = L := ⟨_, rfl⟩
  have hLc : cls.length = L := by omega
  have q0 : w1.cell? ⟨w.heap.size, 0, none⟩ = some (.int .i64 n) := by rw [← hw1, cell_al, if_pos rfl]; rfl
  have q1 : w1.cell? ⟨w.heap.size, 1, none⟩ = some (.slice p vs.length cap) := by rw [← hw1, cell_al, if_pos rfl]; rfl
  have ht1 : Lib.TabIs Tryd.prog w1 "internal/strconv.uint64pow10" .u64 Lib.pow10Tab := (hE.below hb1).pow
  rw [hL] at q1 hc h1 h3 hw1 ⊢
  have HR := hid hr; have HX := hid hx; have HL := hid hLc; have HLL := hid hL; have HB1 := hid hb1; have HS1 := hid hs1; have HW1 := hid hw1; have HCALL := hid hc; have HT1 := hid ht1; have HE0 := hid he0; have HNN := hid (And.intro hn0 hn1); have HBB := hid hb; have HLT := hid (And.intro h1 (And.intro h2 h3))
  clear hr hx hl hL hLc hb1 hs1 hw1 hc ht1 hE he0 hn0 hn1 hb h1 h2 h3
  by_cases hz : e0 = 0
  · have HOK := hid (checkM_ok (HE0.out.trans hz))
    have ITOA := hid (And.intro (itoa_len n (by have := HNN.out; omega) (by have := HNN.out; omega)) (itoa_len (L : Int) (by omega) (by have := HOK.out.2.2.1; have := HL.out; omega)))
    rw [HL.out] at HOK
    subst hz
    go_enter Tryd.func13, Tryd.ntmps13
    go_wp2_with (first
      | (rw [HW1.out])
      | (go_at_call 19; with_reducible refine HCALL.out.mono ?_; rintro e w2 ⟨rfl, hb2⟩; have r0 := (hb2.cell (p := ⟨w.heap.size, 0, none⟩) (by show w.heap.size < _; have := HS1.out; omega)).trans q0; have r1 := (hb2.cell (p := ⟨w.heap.size, 1, none⟩) (by show w.heap.size < _; have := HS1.out; omega)).trans q1; have HB2 := hid hb2; have HT2 := hid (tab_below hb2 (Nat.le_refl _) HT1.out); (obtain ⟨w3, hw3⟩ : ∃ x, w2.alloc (.cells (Lib.byteCells [112, 32, 99, 110, 102, 32]).toArray 5 (6, 7)) = x := ⟨_, rfl⟩); have hF0 : FS w2 w3 (.slice (some ⟨w2.heap.size, 0, none⟩) 6 6) [112, 32, 99, 110, 102, 32] := (by rw [← hw3]; exact FS.lit6 w2); have hcv : (convert 37 37 (.slice (some ⟨w2.heap.size, 0, none⟩) 6 6)).run Tryd.prog (w2.alloc (.cells #[.int .u8 112, .int .u8 32, .int .u8 99, .int .u8 110, .int .u8 102, .int .u8 32] 5)) = .ok (.slice (some ⟨w2.heap.size, 0, none⟩) 6 6) w3 := (by rw [← hw3]; exact conv6 w2); have x0 := (hF0.bel.cell (p := ⟨w.heap.size, 0, none⟩) (by show w.heap.size < _; have := HS1.out; have := hb2.size; omega)).trans r0; have HF0 := hid hF0; clear hw3 hF0 r0; have hsz2 : w.heap.size < w2.heap.size := (by have := HS1.out; have := hb2.size; omega); have HSZ2 := hid hsz2; clear hb2 q0 q1 hsz2)
      | (go_at_call 22; refine (HF0.out.int n HNN.out.1 HNN.out.2 (by simp) HT2.out).mono ?_; rintro e u ⟨vu, rfl, hFu, hgu⟩; have hSu := (hFu.bel.cell (p := ⟨w.heap.size, 1, none⟩) HSZ2.out).trans r1; have HFu := hid hFu; clear hFu hgu hcv))
    go_wp2_with fail
    have hFa : ∀ f, Fence.wide.fn f := fun _ => trivial
    refine (wpIn_wide (n := 9)).1 ?_
    refine wpIn_onlyN ?_
    refine wpIn_region_HJ (fun W' : World => W'.cell? ⟨w.heap.size, 1, none⟩ = some (.slice p L cap)) 9 (by kernel_rfl) ?_
    simp only [List.size_toArray, List.length_cons, List.length_nil, Nat.reduceAdd]
    have HFud := hid HFu.out.drew
    clear HFu hSu
    generalize World.drew u = ud at *
    have hSud := (HFud.out.bel.cell (p := ⟨w.heap.size, 1, none⟩) HSZ2.out).trans r1
    refine wpHJ_pure (v := ?vg0_1) 0 hFa rfl (by kernel_rfl) (fun _ _ _ h => h.elim) (Or.inl ⟨by rfl, ?yg0_1⟩) (.inr hSud) ?rg0_1
    case yg0_1 => (intro w' _; go_simp; try rfl)
    simp only [Act.put, List.getElem_toArray, List.getElem_cons_succ, List.getElem_cons_zero, List.setIfInBounds_toArray, List.set_cons_zero, List.set_cons_succ]
    refine wpHJ_pure (v := ?vg3_3) 3 hFa rfl (by kernel_rfl) (fun _ _ _ h => h.elim) (Or.inl ⟨by rfl, ?yg3_3⟩) (.inr hSud) ?rg3_3
    case yg3_3 => (intro w' _; go_simp; try rfl)
    simp only [Act.put, List.getElem_toArray, List.getElem_cons_succ, List.getElem_cons_zero, List.setIfInBounds_toArray, List.set_cons_zero, List.set_cons_succ]
    refine wpHJ_take (v := ?vg4_5) 4 hFa rfl (by kernel_rfl) (fun _ _ _ h => h.elim) (Or.inl ⟨by rfl, ?yg4_5⟩) hSud ?rg4_5
    case yg4_5 => (intro w' hS'; have hp1 := hS'; go_simp; try rfl)
    simp only [Act.put, List.getElem_toArray, List.getElem_cons_succ, List.getElem_cons_zero, List.setIfInBounds_toArray, List.set_cons_zero, List.set_cons_succ]
    refine wpHJ_pure (v := ?vg5_7) 5 hFa rfl (by kernel_rfl) (fun _ _ _ h => h.elim) (Or.inl ⟨by rfl, ?yg5_7⟩) (.inr hSud) ?rg5_7
    case yg5_7 => (intro w' _; go_simp; try rfl)
    simp only [Act.put, List.getElem_toArray, List.getElem_cons_succ, List.getElem_cons_zero, List.setIfInBounds_toArray, List.set_cons_zero, List.set_cons_succ]
    refine wpHJ_both 1 7 (by kernel_rfl) rfl rfl ?_ ?_
    · intro K hK
      go_simp
      obtain ⟨ud1, hud1⟩ : ∃ x, (ud.alloc (.cells #[.int .u8 32] 5)) = x := ⟨_, rfl⟩
      have HFud1 := hid (show FS w2 ud1 vu ([112, 32, 99, 110, 102, 32] ++ Lib.itoa n) from by rw [← hud1]; exact HFud.out.alloc _)
      have HL1ud1 := hid (show Lt ud1 ud.heap.size 32 from by rw [← hud1]; exact Lt.new ud 32)
      rw [hud1]
      clear hud1
      have hSud1 := (HFud1.out.bel.cell (p := ⟨w.heap.size, 1, none⟩) HSZ2.out).trans r1
      refine hK _ _ (.inr (.inr hSud1)) ?_
      clear hK K
      refine wpHJ_both 2 7 (by kernel_rfl) rfl rfl ?_ ?_
      · intro K hK
        refine wpIn_appM hFa (.tmp 20) (.tmp 21) 37 37 rfl w2.heap.size 5 (.int .u8 0) Tryd.underlying37 info_u8 rfl vu ([112, 32, 99, 110, 102, 32] ++ Lib.itoa n).length (Lib.byteCells ([112, 32, 99, 110, 102, 32] ++ Lib.itoa n)) rfl HFud1.out.row HFud1.out.bel.size (.slice (some ⟨ud.heap.size, 0, none⟩) 1 1) 1 (Lib.byteCells [32]) rfl HL1ud1.out.src (by have h1 := ITOA.out.1; have h2 := ITOA.out.2; simp only [List.length_append, List.length_cons, List.length_nil]; omega) ?_
        intro vud12 ud12 ho hg hv
        have HFud12 := hid (HFud1.out.grown (ys := [32]) rfl rfl ho hg)
        clear ho hg hv
        have hSud12 := (HFud12.out.bel.cell (p := ⟨w.heap.size, 1, none⟩) HSZ2.out).trans r1
        refine hK _ _ (.inr (.inr hSud12)) ?_
        clear hK K
        refine wpHJ_both 6 7 (by kernel_rfl) rfl rfl ?_ ?_
        · intro K hK
          go_simp
          (with_reducible refine (callsIn_wide.2 (HFud12.out.int (L : Int) (by have := HOK.out.2.2.1; omega) (by have := HOK.out.2.2.1; omega) (by have h1 := ITOA.out.1; have h2 := ITOA.out.2; simp only [List.length_append, List.length_cons, List.length_nil]; omega) HT2.out)).mono ?_)
          rintro e ud126 ⟨vud126, rfl, hFud126, hg⟩
          have HFud126 := hid hFud126
          clear hg hFud126
          have hSud126 := (HFud126.out.bel.cell (p := ⟨w.heap.size, 1, none⟩) HSZ2.out).trans r1
          refine hK _ _ (.inr (.inr hSud126)) ?_
          clear hK K
          refine wpHJ_only 7 (by kernel_rfl) rfl ?_
          intro K hK
          go_simp
          obtain ⟨ud1267, hud1267⟩ : ∃ x, (ud126.alloc (.cells #[.int .u8 10] 5)) = x := ⟨_, rfl⟩
          have HFud1267 := hid (show FS w2 ud1267 vud126 ((([112, 32, 99, 110, 102, 32] ++ Lib.itoa n) ++ [32]) ++ Lib.itoa (L : Int)) from by rw [← hud1267]; exact HFud126.out.alloc _)
          have HL7ud1267 := hid (show Lt ud1267 ud126.heap.size 10 from by rw [← hud1267]; exact Lt.new ud126 10)
          rw [hud1267]
          clear hud1267
          have hSud1267 := (HFud1267.out.bel.cell (p := ⟨w.heap.size, 1, none⟩) HSZ2.out).trans r1
          refine hK _ _ (.inr (.inr hSud1267)) ?_
          clear hK K
          refine wpHJ_only 8 (by kernel_rfl) rfl ?_
          intro K hK
          refine wpIn_appM hFa (.tmp 26) (.tmp 27) 37 37 rfl w2.heap.size 5 (.int .u8 0) Tryd.underlying37 info_u8 rfl vud126 ((([112, 32, 99, 110, 102, 32] ++ Lib.itoa n) ++ [32]) ++ Lib.itoa (L : Int)).length (Lib.byteCells ((([112, 32, 99, 110, 102, 32] ++ Lib.itoa n) ++ [32]) ++ Lib.itoa (L : Int))) rfl HFud1267.out.row HFud1267.out.bel.size (.slice (some ⟨ud126.heap.size, 0, none⟩) 1 1) 1 (Lib.byteCells [10]) rfl HL7ud1267.out.src (by have h1 := ITOA.out.1; have h2 := ITOA.out.2; simp only [List.length_append, List.length_cons, List.length_nil]; omega) ?_
          intro vud12678 ud12678 ho hg hv
          have HFud12678 := hid (HFud1267.out.grown (ys := [10]) rfl rfl ho hg)
          clear ho hg hv
          have hSud12678 := (HFud12678.out.bel.cell (p := ⟨w.heap.size, 1, none⟩) HSZ2.out).trans r1
          refine hK _ _ (.inr (.inr hSud12678)) ?_
          clear hK K
          refine wpHJ_only 9 (by kernel_rfl) rfl ?_
          intro K hK
          go_simp
          refine hK _ _ (.inl rfl) ?_
          clear hK K
          refine wpHJ_done (by kernel_rfl) ?_ _
          simp only [onlyN, Exit.then]
          clear hFa
          obtain ⟨wz, hwz⟩ : ∃ x, ud12678 = x := ⟨_, rfl⟩
          obtain ⟨vz, hvz⟩ : ∃ x, vud12678 = x := ⟨_, rfl⟩
          have HFZ := hid (show FS w2 ud12678 vud12678 (headT n L) from by have h := HFud12678.out; unfold headT; simpa only [List.append_assoc] using h)
          rw [hwz, hvz] at HFZ
          obtain ⟨pz, kz, hvz2⟩ := HFZ.out.op
          have hz2 : vz = .slice pz (headT n L).length kz := hvz2
          clear hvz2
          rw [hwz, hvz]
          clear hwz hvz HFud hSud HFud1 hSud1 HL1ud1 HFud12 hSud12 HFud126 hSud126 HFud1267 hSud1267 HL7ud1267 HFud12678 hSud12678
          have sz := (HFZ.out.bel.cell (p := ⟨w.heap.size, 1, none⟩) HSZ2.out).trans r1
          have HZ2 := hid hz2
          clear hz2
          go_wp2_with fail
          have hLb : L ≤ 1048576 := HOK.out.2.2.1
          go_loopw [5, 32] (fun v i wr => ∃ (k : Nat) (out : Bs), k ≤ L ∧ i = .int .i64 k ∧ FS w2 wr v out ∧ out.length ≤ 65536 ∧ out = headT n L ++ (cls.take k).flatMap clauseT) (fun _ i _ => L - (intOf i).toNat)
          case atStart => exact ⟨0, headT n L, by omega, rfl, HFZ.out, (by have h1 := ITOA.out.1; have h2 := ITOA.out.2; unfold headT; simp only [List.length_append, List.length_cons, List.length_nil]; omega), by simp⟩
          case round =>
            obtain ⟨k, out, hk, rfl, hfs, hol, hout⟩ := hrel
            obtain ⟨wo, rfl⟩ : ∃ wo : World, wo = wr := ⟨_, rfl⟩
            have HFS := hid hfs; have HOL := hid hol; have HOUT := hid hout
            clear hfs hol hout
            by_cases hlt : k < L
            · have hkd : decide ((k : Int) < (L : Int)) = true := by simp; omega
              have hkc : k < cls.length := by have := HL.out; omega
              have hkv : k < vs.length := by have := HLL.out; omega
              obtain ⟨bk, off, rfl, hR1, hcell⟩ := HR.out.at k hkv
              have hbW : Below w.heap.size w wo := HB1.out.trans ((HB2.out.trans (HFS.out.bel.mono HB2.out.size)).mono (by have := HS1.out; omega))
              have hck := (hbW.cell (p := ⟨bk, off + k, none⟩) hR1).trans (hcell k hkv)
              obtain ⟨m, hm⟩ : ∃ m, cls[k].length = m := ⟨_, rfl⟩
              obtain ⟨pk, ck, hvk, hk1, hk2, hk3, hrk⟩ := (HX.out k hkc hkv).op
              have hrow := hrk.keep (R' := (· < w.heap.size)) (fun i hi => ⟨hi, rfl⟩)
              obtain ⟨hml, hma⟩ := litM_ok2 (litsM_ok2 HOK.out.2.2.2 cls[k] (List.getElem_mem hkc))
              have hbb := HBB.out _ (List.getElem_mem hkc)
              have htk : cls.take (k + 1) = cls.take k ++ [cls[k]] := by rw [List.take_succ_eq_append_getElem hkc]
              rw [hm] at hvk hml
              rw [hvk] at hck
              have HROW := hid hrow; have HML := hid hml; have HBBK := hid hbb; have HTK := hid htk; have HM := hid hm; have HBW := hid hbW
              obtain ⟨c, hc⟩ : ∃ c, cls[k] = c := ⟨_, rfl⟩
              rw [hc] at HROW HBBK HTK HM
              clear hcell hR1 hrk hrow hml hma hbb htk hm hvk hk1 hk2 hk3 hkc hkv hc hbW
              have hmb : m ≤ 4096 := HML.out
              go_wp2_with fail
              go_loopw [5, 38] (fun v j wr' => ∃ (q : Nat) (o2 : Bs), q ≤ m ∧ j = .int .i64 q ∧ FS w2 wr' v o2 ∧ o2.length ≤ 65536 + 22 * q ∧ o2 = out ++ (c.take q).flatMap (fun a => Lib.itoa a ++ [32])) (fun _ j _ => m - (intOf j).toNat)
              case atStart => exact ⟨0, out, by omega, rfl, HFS.out, by have := HOL.out; omega, by simp⟩
              case round =>
                obtain ⟨q, o2, hq, rfl, hf2, ho2, he2⟩ := hrel
                obtain ⟨wi, rfl⟩ : ∃ wi : World, wi = wr := ⟨_, rfl⟩
                have HF2 := hid hf2; have HO2 := hid ho2; have HE2 := hid he2
                clear hf2 ho2 he2
                by_cases hqm : q < m
                · have hqd : decide ((q : Int) < (m : Int)) = true := by simp; omega
                  have hqc : q < c.length := by have := HM.out; omega
                  obtain ⟨bq, oq, rfl, hRq, hcq⟩ := HROW.out.atI q hqc
                  have hbI : Below w.heap.size w wi := HB1.out.trans ((HB2.out.trans (HF2.out.bel.mono HB2.out.size)).mono (by have := HS1.out; omega))
                  have hcw := (hbI.cell (p := ⟨bq, oq + q, none⟩) hRq).trans (hcq q hqc)
                  have htq : c.take (q + 1) = c.take q ++ [c[q]] := by rw [List.take_succ_eq_append_getElem hqc]
                  have hbq := HBBK.out _ (List.getElem_mem hqc)
                  obtain ⟨x, hx⟩ : ∃ x, c[q] = x := ⟨_, rfl⟩
                  rw [hx] at hcw htq hbq
                  have HBQ := hid hbq; have HTQ := hid htq; have HIL := hid (itoa_len x hbq.1 hbq.2); have HML2 := hid HML.out
                  clear hbq htq hx hcq hbI hRq hqc
                  go_wp2_with (first
                    | (go_at_call 22; refine (HF2.out.int x HBQ.out.1 HBQ.out.2 (by have := HO2.out; have := HML2.out; omega) HT2.out).mono ?_; rintro e w5 ⟨v5, rfl, hF5, hg5⟩; have HF5 := hid hF5; clear hF5 hg5)
                    | (at_builtin; refine wpList_appM rfl (.tmp 44) (.tmp 45) 37 37 rfl w2.heap.size 5 (.int .u8 0) Tryd.underlying37 info_u8 rfl v5 (o2 ++ Lib.itoa x).length (Lib.byteCells (o2 ++ Lib.itoa x)) rfl (HF5.out.alloc _).row (HF5.out.alloc _).bel.size (.slice (some ⟨w5.heap.size, 0, none⟩) 1 1) 1 (Lib.byteCells [32]) rfl (Lt.new w5 32).src (by have := HO2.out; have := HML2.out; have := HIL.out; rw [List.length_append]; omega) ?_; intro v6 w6 ho6 hg6 hv6; have HF6 := hid ((HF5.out.alloc _).grown (ys := [32]) rfl rfl ho6 hg6); clear ho6 hg6 hv6))
                  go_roundw
                  case rel =>
                    refine ⟨q + 1, _, by omega, by go_num, HF6.out, ?_, ?_⟩
                    · have := HO2.out; have := HIL.out
                      simp only [List.length_append, List.length_cons, List.length_nil]; omega
                    · rw [HTQ.out, HE2.out, List.flatMap_append]
                      simp only [List.flatMap_cons, List.flatMap_nil, List.append_nil, List.append_assoc]
                  case measure => (simp [intOf] <;> omega)
                · obtain rfl : q = m := by omega
                  obtain ⟨N, hN⟩ : ∃ N, o2.length + 2 = N := ⟨_, rfl⟩
                  have hcl : o2 ++ [48, 10] = out ++ clauseT c := by
                    rw [HE2.out, List.take_of_length_le (Nat.le_of_eq HM.out)]
                    unfold clauseT
                    rw [List.append_assoc]
                  have htx : o2 ++ [48, 10] = headT n L ++ (cls.take (k + 1)).flatMap clauseT := by
                    rw [hcl, HTK.out, HOUT.out, List.flatMap_append]
                    simp only [List.flatMap_cons, List.flatMap_nil, List.append_nil, List.append_assoc]
                  have HN := hid hN; have HTX := hid htx
                  clear hN hcl htx
                  by_cases hbig : 65536 < N
                  · have hbd : decide (65536 < (N : Int)) = true := by simp; omega
                    have HFM := hid (formatM_long (n := n) (cls := cls) HE0.out (k + 1) (by rw [HL.out, ← HTX.out]; have := HN.out; simp only [List.length_append, List.length_cons, List.length_nil]; omega))
                    go_wp2_with (first
                      | (at_builtin; refine wpList_appM rfl (.tmp 48) (.tmp 49) 37 37 rfl w2.heap.size 5 (.int .u8 0) Tryd.underlying37 info_u8 rfl _ o2.length (Lib.byteCells o2) rfl (HF2.out.alloc _).row (HF2.out.alloc _).bel.size (.slice (some ⟨wi.heap.size, 0, none⟩) 2 2) 2 (Lib.byteCells [48, 10]) rfl (src2 wi 48 10) (by have := HO2.out; have := HML.out; omega) ?_; intro v7 w7 ho7 hg7 hv7; have HF7 := hid ((HF2.out.alloc _).grown (ys := [48, 10]) rfl rfl ho7 hg7); obtain ⟨p7, k7, e7⟩ := ho7.slice; rw [HN.out] at e7; subst e7; clear ho7 hg7 hv7))
                    go_ret2
                    exact ⟨by rw [HFM.out]; rfl, HB1.out.trans ((HB2.out.trans (HF7.out.bel.mono HB2.out.size)).mono (by have := HS1.out; omega))⟩
                  · have hbd : decide (65536 < (N : Int)) = false := by simp; omega
                    go_wp2_with (first
                      | (at_builtin; refine wpList_appM rfl (.tmp 48) (.tmp 49) 37 37 rfl w2.heap.size 5 (.int .u8 0) Tryd.underlying37 info_u8 rfl _ o2.length (Lib.byteCells o2) rfl (HF2.out.alloc _).row (HF2.out.alloc _).bel.size (.slice (some ⟨wi.heap.size, 0, none⟩) 2 2) 2 (Lib.byteCells [48, 10]) rfl (src2 wi 48 10) (by have := HO2.out; have := HML.out; omega) ?_; intro v7 w7 ho7 hg7 hv7; have HF7 := hid ((HF2.out.alloc _).grown (ys := [48, 10]) rfl rfl ho7 hg7); obtain ⟨p7, k7, e7⟩ := ho7.slice; rw [HN.out] at e7; subst e7; clear ho7 hg7 hv7))
                    go_roundw
                    case rel => exact ⟨k + 1, o2 ++ [48, 10], by omega, by go_num, HF7.out, (by have := HN.out; simp only [List.length_append, List.length_cons, List.length_nil]; omega), HTX.out⟩
                    case measure => (simp [intOf] <;> omega)
            · obtain rfl : k = L := by omega
              obtain ⟨pv, kv, rfl⟩ := HFS.out.op
              have hbd : decide (65536 < (out.length : Int)) = false := by have := HOL.out; simp; omega
              have htx : (convert 37 9 (.slice pv out.length kv)).run Tryd.prog wo = .ok (.string ⟨out.toArray⟩) wo := HFS.out.row.text Tryd.underlying37 Tryd.underlying5 Tryd.underlying9
              have HFM := hid (formatM_ok (n := n) (cls := cls) HE0.out (out := out) (by rw [HOUT.out, List.take_of_length_le (Nat.le_of_eq HL.out)]; unfold textM; rw [HL.out]) HOL.out)
              go_wp2_with fail
              go_ret2
              exact ⟨by rw [HFM.out]; rfl, HB1.out.trans ((HB2.out.trans (HFS.out.bel.mono HB2.out.size)).mono (by have := HS1.out; omega))⟩
        · intro K hK
          go_simp
          obtain ⟨ud127, hud127⟩ : ∃ x, (ud12.alloc (.cells #[.int .u8 10] 5)) = x := ⟨_, rfl⟩
          have HFud127 := hid (show FS w2 ud127 vud12 (([112, 32, 99, 110, 102, 32] ++ Lib.itoa n) ++ [32]) from by rw [← hud127]; exact HFud12.out.alloc _)
          have HL7ud127 := hid (show Lt ud127 ud12.heap.size 10 from by rw [← hud127]; exact Lt.new ud12 10)
          rw [hud127]
          clear hud127
          have hSud127 := (HFud127.out.bel.cell (p := ⟨w.heap.size, 1, none⟩) HSZ2.out).trans r1
          refine hK _ _ (.inr (.inr hSud127)) ?_
          clear hK K
          refine wpHJ_only 6 (by kernel_rfl) rfl ?_
          intro K hK
          go_simp
          (with_reducible refine (callsIn_wide.2 (HFud127.out.int (L : Int) (by have := HOK.out.2.2.1; omega) (by have := HOK.out.2.2.1; omega) (by have h1 := ITOA.out.1; have h2 := ITOA.out.2; simp only [List.length_append, List.length_cons, List.length_nil]; omega) HT2.out)).mono ?_)
          rintro e ud1276 ⟨vud1276, rfl, hFud1276, hg⟩
          have HFud1276 := hid hFud1276
          have HL7ud1276 := hid (HL7ud127.out.grown hg (own_ne1 HFud127.out.row (by simp) HL7ud127.out))
          clear hg hFud1276
          have hSud1276 := (HFud1276.out.bel.cell (p := ⟨w.heap.size, 1, none⟩) HSZ2.out).trans r1
          refine hK _ _ (.inr (.inr hSud1276)) ?_
          clear hK K
          refine wpHJ_only 8 (by kernel_rfl) rfl ?_
          intro K hK
          refine wpIn_appM hFa (.tmp 26) (.tmp 27) 37 37 rfl w2.heap.size 5 (.int .u8 0) Tryd.underlying37 info_u8 rfl vud1276 ((([112, 32, 99, 110, 102, 32] ++ Lib.itoa n) ++ [32]) ++ Lib.itoa (L : Int)).length (Lib.byteCells ((([112, 32, 99, 110, 102, 32] ++ Lib.itoa n) ++ [32]) ++ Lib.itoa (L : Int))) rfl HFud1276.out.row HFud1276.out.bel.size (.slice (some ⟨ud12.heap.size, 0, none⟩) 1 1) 1 (Lib.byteCells [10]) rfl HL7ud1276.out.src (by have h1 := ITOA.out.1; have h2 := ITOA.out.2; simp only [List.length_append, List.length_cons, List.length_nil]; omega) ?_
          intro vud12768 ud12768 ho hg hv
          have HFud12768 := hid (HFud1276.out.grown (ys := [10]) rfl rfl ho hg)
          clear ho hg hv
          have hSud12768 := (HFud12768.out.bel.cell (p := ⟨w.heap.size, 1, none⟩) HSZ2.out).trans r1
          refine hK _ _ (.inr (.inr hSud12768)) ?_
          clear hK K
          refine wpHJ_only 9 (by kernel_rfl) rfl ?_
          intro K hK
          go_simp
          refine hK _ _ (.inl rfl) ?_
          clear hK K
          refine wpHJ_done (by kernel_rfl) ?_ _
          simp only [onlyN, Exit.then]
          clear hFa
          obtain ⟨wz, hwz⟩ : ∃ x, ud12768 = x := ⟨_, rfl⟩
          obtain ⟨vz, hvz⟩ : ∃ x, vud12768 = x := ⟨_, rfl⟩
          have HFZ := hid (show FS w2 ud12768 vud12768 (headT n L) from by have h := HFud12768.out; unfold headT; simpa only [List.append_assoc] using h)
          rw [hwz, hvz] at HFZ
          obtain ⟨pz, kz, hvz2⟩ := HFZ.out.op
          have hz2 : vz = .slice pz (headT n L).length kz := hvz2
          clear hvz2
          rw [hwz, hvz]
          clear hwz hvz HFud hSud HFud1 hSud1 HL1ud1 HFud12 hSud12 HFud127 hSud127 HL7ud127 HFud1276 hSud1276 HL7ud1276 HFud12768 hSud12768
          have sz := (HFZ.out.bel.cell (p := ⟨w.heap.size, 1, none⟩) HSZ2.out).trans r1
          have HZ2 := hid hz2
          clear hz2
          go_wp2_with fail
          have hLb : L ≤ 1048576 := HOK.out.2.2.1
          go_loopw [5, 32] (fun v i wr => ∃ (k : Nat) (out : Bs), k ≤ L ∧ i = .int .i64 k ∧ FS w2 wr v out ∧ out.length ≤ 65536 ∧ out = headT n L ++ (cls.take k).flatMap clauseT) (fun _ i _ => L - (intOf i).toNat)
          case atStart => exact ⟨0, headT n L, by omega, rfl, HFZ.out, (by have h1 := ITOA.out.1; have h2 := ITOA.out.2; unfold headT; simp only [List.length_append, List.length_cons, List.length_nil]; omega), by simp⟩
          case round =>
            obtain ⟨k, out, hk, rfl, hfs, hol, hout⟩ := hrel
            obtain ⟨wo, rfl⟩ : ∃ wo : World, wo = wr := ⟨_, rfl⟩
            have HFS := hid hfs; have HOL := hid hol; have HOUT := hid hout
            clear hfs hol hout
            by_cases hlt : k < L
            · have hkd : decide ((k : Int) < (L : Int)) = true := by simp; omega
              have hkc : k < cls.length := by have := HL.out; omega
              have hkv : k < vs.length := by have := HLL.out; omega
              obtain ⟨bk, off, rfl, hR1, hcell⟩ := HR.out.at k hkv
              have hbW : Below w.heap.size w wo := HB1.out.trans ((HB2.out.trans (HFS.out.bel.mono HB2.out.size)).mono (by have := HS1.out; omega))
              have hck := (hbW.cell (p := ⟨bk, off + k, none⟩) hR1).trans (hcell k hkv)
              obtain ⟨m, hm⟩ : ∃ m, cls[k].length = m := ⟨_, rfl⟩
              obtain ⟨pk, ck, hvk, hk1, hk2, hk3, hrk⟩ := (HX.out k hkc hkv).op
              have hrow := hrk.keep (R' := (· < w.heap.size)) (fun i hi => ⟨hi, rfl⟩)
              obtain ⟨hml, hma⟩ := litM_ok2 (litsM_ok2 HOK.out.2.2.2 cls[k] (List.getElem_mem hkc))
              have hbb := HBB.out _ (List.getElem_mem hkc)
              have htk : cls.take (k + 1) = cls.take k ++ [cls[k]] := by rw [List.take_succ_eq_append_getElem hkc]
              rw [hm] at hvk hml
              rw [hvk] at hck
              have HROW := hid hrow; have HML := hid hml; have HBBK := hid hbb; have HTK := hid htk; have HM := hid hm; have HBW := hid hbW
              obtain ⟨c, hc⟩ : ∃ c, cls[k] = c := ⟨_, rfl⟩
              rw [hc] at HROW HBBK HTK HM
              clear hcell hR1 hrk hrow hml hma hbb htk hm hvk hk1 hk2 hk3 hkc hkv hc hbW
              have hmb : m ≤ 4096 := HML.out
              go_wp2_with fail
              go_loopw [5, 38] (fun v j wr' => ∃ (q : Nat) (o2 : Bs), q ≤ m ∧ j = .int .i64 q ∧ FS w2 wr' v o2 ∧ o2.length ≤ 65536 + 22 * q ∧ o2 = out ++ (c.take q).flatMap (fun a => Lib.itoa a ++ [32])) (fun _ j _ => m - (intOf j).toNat)
              case atStart => exact ⟨0, out, by omega, rfl, HFS.out, by have := HOL.out; omega, by simp⟩
              case round =>
                obtain ⟨q, o2, hq, rfl, hf2, ho2, he2⟩ := hrel
                obtain ⟨wi, rfl⟩ : ∃ wi : World, wi = wr := ⟨_, rfl⟩
                have HF2 := hid hf2; have HO2 := hid ho2; have HE2 := hid he2
                clear hf2 ho2 he2
                by_cases hqm : q < m
                · have hqd : decide ((q : Int) < (m : Int)) = true := by simp; omega
                  have hqc : q < c.length := by have := HM.out; omega
                  obtain ⟨bq, oq, rfl, hRq, hcq⟩ := HROW.out.atI q hqc
                  have hbI : Below w.heap.size w wi := HB1.out.trans ((HB2.out.trans (HF2.out.bel.mono HB2.out.size)).mono (by have := HS1.out; omega))
                  have hcw := (hbI.cell (p := ⟨bq, oq + q, none⟩) hRq).trans (hcq q hqc)
                  have htq : c.take (q + 1) = c.take q ++ [c[q]] := by rw [List.take_succ_eq_append_getElem hqc]
                  have hbq := HBBK.out _ (List.getElem_mem hqc)
                  obtain ⟨x, hx⟩ : ∃ x, c[q] = x := ⟨_, rfl⟩
                  rw [hx] at hcw htq hbq
                  have HBQ := hid hbq; have HTQ := hid htq; have HIL := hid (itoa_len x hbq.1 hbq.2); have HML2 := hid HML.out
                  clear hbq htq hx hcq hbI hRq hqc
                  go_wp2_with (first
                    | (go_at_call 22; refine (HF2.out.int x HBQ.out.1 HBQ.out.2 (by have := HO2.out; have := HML2.out; omega) HT2.out).mono ?_; rintro e w5 ⟨v5, rfl, hF5, hg5⟩; have HF5 := hid hF5; clear hF5 hg5)
                    | (at_builtin; refine wpList_appM rfl (.tmp 44) (.tmp 45) 37 37 rfl w2.heap.size 5 (.int .u8 0) Tryd.underlying37 info_u8 rfl v5 (o2 ++ Lib.itoa x).length (Lib.byteCells (o2 ++ Lib.itoa x)) rfl (HF5.out.alloc _).row (HF5.out.alloc _).bel.size (.slice (some ⟨w5.heap.size, 0, none⟩) 1 1) 1 (Lib.byteCells [32]) rfl (Lt.new w5 32).src (by have := HO2.out; have := HML2.out; have := HIL.out; rw [List.length_append]; omega) ?_; intro v6 w6 ho6 hg6 hv6; have HF6 := hid ((HF5.out.alloc _).grown (ys := [32]) rfl rfl ho6 hg6); clear ho6 hg6 hv6))
                  go_roundw
                  case rel =>
                    refine ⟨q + 1, _, by omega, by go_num, HF6.out, ?_, ?_⟩
                    · have := HO2.out; have := HIL.out
                      simp only [List.length_append, List.length_cons, List.length_nil]; omega
                    · rw [HTQ.out, HE2.out, List.flatMap_append]
                      simp only [List.flatMap_cons, List.flatMap_nil, List.append_nil, List.append_assoc]
                  case measure => (simp [intOf] <;> omega)
                · obtain rfl : q = m := by omega
                  obtain ⟨N, hN⟩ : ∃ N, o2.length + 2 = N := ⟨_, rfl⟩
                  have hcl : o2 ++ [48, 10] = out ++ clauseT c := by
                    rw [HE2.out, List.take_of_length_le (Nat.le_of_eq HM.out)]
                    unfold clauseT
                    rw [List.append_assoc]
                  have htx : o2 ++ [48, 10] = headT n L ++ (cls.take (k + 1)).flatMap clauseT := by
                    rw [hcl, HTK.out, HOUT.out, List.flatMap_append]
                    simp only [List.flatMap_cons, List.flatMap_nil, List.append_nil, List.append_assoc]
                  have HN := hid hN; have HTX := hid htx
                  clear hN hcl htx
                  by_cases hbig : 65536 < N
                  · have hbd : decide (65536 < (N : Int)) = true := by simp; omega
                    have HFM := hid (formatM_long (n := n) (cls := cls) HE0.out (k + 1) (by rw [HL.out, ← HTX.out]; have := HN.out; simp only [List.length_append, List.length_cons, List.length_nil]; omega))
                    go_wp2_with (first
                      | (at_builtin; refine wpList_appM rfl (.tmp 48) (.tmp 49) 37 37 rfl w2.heap.size 5 (.int .u8 0) Tryd.underlying37 info_u8 rfl _ o2.length (Lib.byteCells o2) rfl (HF2.out.alloc _).row (HF2.out.alloc _).bel.size (.slice (some ⟨wi.heap.size, 0, none⟩) 2 2) 2 (Lib.byteCells [48, 10]) rfl (src2 wi 48 10) (by have := HO2.out; have := HML.out; omega) ?_; intro v7 w7 ho7 hg7 hv7; have HF7 := hid ((HF2.out.alloc _).grown (ys := [48, 10]) rfl rfl ho7 hg7); obtain ⟨p7, k7, e7⟩ := ho7.slice; rw [HN.out] at e7; subst e7; clear ho7 hg7 hv7))
                    go_ret2
                    exact ⟨by rw [HFM.out]; rfl, HB1.out.trans ((HB2.out.trans (HF7.out.bel.mono HB2.out.size)).mono (by have := HS1.out; omega))⟩
                  · have hbd : decide (65536 < (N : Int)) = false := by simp; omega
                    go_wp2_with (first
                      | (at_builtin; refine wpList_appM rfl (.tmp 48) (.tmp 49) 37 37 rfl w2.heap.size 5 (.int .u8 0) Tryd.underlying37 info_u8 rfl _ o2.length (Lib.byteCells o2) rfl (HF2.out.alloc _).row (HF2.out.alloc _).bel.size (.slice (some ⟨wi.heap.size, 0, none⟩) 2 2) 2 (Lib.byteCells [48, 10]) rfl (src2 wi 48 10) (by have := HO2.out; have := HML.out; omega) ?_; intro v7 w7 ho7 hg7 hv7; have HF7 := hid ((HF2.out.alloc _).grown (ys := [48, 10]) rfl rfl ho7 hg7); obtain ⟨p7, k7, e7⟩ := ho7.slice; rw [HN.out] at e7; subst e7; clear ho7 hg7 hv7))
                    go_roundw
                    case rel => exact ⟨k + 1, o2 ++ [48, 10], by omega, by go_num, HF7.out, (by have := HN.out; simp only [List.length_append, List.length_cons, List.length_nil]; omega), HTX.out⟩
                    case measure => (simp [intOf] <;> omega)
            · obtain rfl : k = L := by omega
              obtain ⟨pv, kv, rfl⟩ := HFS.out.op
              have hbd : decide (65536 < (out.length : Int)) = false := by have := HOL.out; simp; omega
              have htx : (convert 37 9 (.slice pv out.length kv)).run Tryd.prog wo = .ok (.string ⟨out.toArray⟩) wo := HFS.out.row.text Tryd.underlying37 Tryd.underlying5 Tryd.underlying9
              have HFM := hid (formatM_ok (n := n) (cls := cls) HE0.out (out := out) (by rw [HOUT.out, List.take_of_length_le (Nat.le_of_eq HL.out)]; unfold textM; rw [HL.out]) HOL.out)
              go_wp2_with fail
              go_ret2
              exact ⟨by rw [HFM.out]; rfl, HB1.out.trans ((HB2.out.trans (HFS.out.bel.mono HB2.out.size)).mono (by have := HS1.out; omega))⟩
      · intro K hK
        go_simp
        obtain ⟨ud17, hud17⟩ : ∃ x, (ud1.alloc (.cells #[.int .u8 10] 5)) = x := ⟨_, rfl⟩
        have HFud17 := hid (show FS w2 ud17 vu ([112, 32, 99, 110, 102, 32] ++ Lib.itoa n) from by rw [← hud17]; exact HFud1.out.alloc _)
        have HL7ud17 := hid (show Lt ud17 ud1.heap.size 10 from by rw [← hud17]; exact Lt.new ud1 10)
        have HL1ud17 := hid (show Lt ud17 ud.heap.size 32 from by rw [← hud17]; exact HL1ud1.out.alloc _)
        rw [hud17]
        clear hud17
        have hSud17 := (HFud17.out.bel.cell (p := ⟨w.heap.size, 1, none⟩) HSZ2.out).trans r1
        refine hK _ _ (.inr (.inr hSud17)) ?_
        clear hK K
        refine wpHJ_only 2 (by kernel_rfl) rfl ?_
        intro K hK
        refine wpIn_appM hFa (.tmp 20) (.tmp 21) 37 37 rfl w2.heap.size 5 (.int .u8 0) Tryd.underlying37 info_u8 rfl vu ([112, 32, 99, 110, 102, 32] ++ Lib.itoa n).length (Lib.byteCells ([112, 32, 99, 110, 102, 32] ++ Lib.itoa n)) rfl HFud17.out.row HFud17.out.bel.size (.slice (some ⟨ud.heap.size, 0, none⟩) 1 1) 1 (Lib.byteCells [32]) rfl HL1ud17.out.src (by have h1 := ITOA.out.1; have h2 := ITOA.out.2; simp only [List.length_append, List.length_cons, List.length_nil]; omega) ?_
        intro vud172 ud172 ho hg hv
        have HFud172 := hid (HFud17.out.grown (ys := [32]) rfl rfl ho hg)
        have HL7ud172 := hid (HL7ud17.out.grown hg (own_ne1 HFud17.out.row (by simp) HL7ud17.out))
        clear ho hg hv
        have hSud172 := (HFud172.out.bel.cell (p := ⟨w.heap.size, 1, none⟩) HSZ2.out).trans r1
        refine hK _ _ (.inr (.inr hSud172)) ?_
        clear hK K
        refine wpHJ_only 6 (by kernel_rfl) rfl ?_
        intro K hK
        go_simp
        (with_reducible refine (callsIn_wide.2 (HFud172.out.int (L : Int) (by have := HOK.out.2.2.1; omega) (by have := HOK.out.2.2.1; omega) (by have h1 := ITOA.out.1; have h2 := ITOA.out.2; simp only [List.length_append, List.length_cons, List.length_nil]; omega) HT2.out)).mono ?_)
        rintro e ud1726 ⟨vud1726, rfl, hFud1726, hg⟩
        have HFud1726 := hid hFud1726
        have HL7ud1726 := hid (HL7ud172.out.grown hg (own_ne1 HFud172.out.row (by simp) HL7ud172.out))
        clear hg hFud1726
        have hSud1726 := (HFud1726.out.bel.cell (p := ⟨w.heap.size, 1, none⟩) HSZ2.out).trans r1
        refine hK _ _ (.inr (.inr hSud1726)) ?_
        clear hK K
        refine wpHJ_only 8 (by kernel_rfl) rfl ?_
        intro K hK
        refine wpIn_appM hFa (.tmp 26) (.tmp 27) 37 37 rfl w2.heap.size 5 (.int .u8 0) Tryd.underlying37 info_u8 rfl vud1726 ((([112, 32, 99, 110, 102, 32] ++ Lib.itoa n) ++ [32]) ++ Lib.itoa (L : Int)).length (Lib.byteCells ((([112, 32, 99, 110, 102, 32] ++ Lib.itoa n) ++ [32]) ++ Lib.itoa (L : Int))) rfl HFud1726.out.row HFud1726.out.bel.size (.slice (some ⟨ud1.heap.size, 0, none⟩) 1 1) 1 (Lib.byteCells [10]) rfl HL7ud1726.out.src (by have h1 := ITOA.out.1; have h2 := ITOA.out.2; simp only [List.length_append, List.length_cons, List.length_nil]; omega) ?_
        intro vud17268 ud17268 ho hg hv
        have HFud17268 := hid (HFud1726.out.grown (ys := [10]) rfl rfl ho hg)
        clear ho hg hv
        have hSud17268 := (HFud17268.out.bel.cell (p := ⟨w.heap.size, 1, none⟩) HSZ2.out).trans r1
        refine hK _ _ (.inr (.inr hSud17268)) ?_
        clear hK K
        refine wpHJ_only 9 (by kernel_rfl) rfl ?_
        intro K hK
        go_simp
        refine hK _ _ (.inl rfl) ?_
        clear hK K
        refine wpHJ_done (by kernel_rfl) ?_ _
        simp only [onlyN, Exit.then]
        clear hFa
        obtain ⟨wz, hwz⟩ : ∃ x, ud17268 = x := ⟨_, rfl⟩
        obtain ⟨vz, hvz⟩ : ∃ x, vud17268 = x := ⟨_, rfl⟩
        have HFZ := hid (show FS w2 ud17268 vud17268 (headT n L) from by have h := HFud17268.out; unfold headT; simpa only [List.append_assoc] using h)
        rw [hwz, hvz] at HFZ
        obtain ⟨pz, kz, hvz2⟩ := HFZ.out.op
        have hz2 : vz = .slice pz (headT n L).length kz := hvz2
        clear hvz2
        rw [hwz, hvz]
        clear hwz hvz HFud hSud HFud1 hSud1 HL1ud1 HFud17 hSud17 HL7ud17 HL1ud17 HFud172 hSud172 HL7ud172 HFud1726 hSud1726 HL7ud1726 HFud17268 hSud17268
        have sz := (HFZ.out.bel.cell (p := ⟨w.heap.size, 1, none⟩) HSZ2.out).trans r1
        have HZ2 := hid hz2
        clear hz2
        go_wp2_with fail
        have hLb : L ≤ 1048576 := HOK.out.2.2.1
        go_loopw [5, 32] (fun v i wr => ∃ (k : Nat) (out : Bs), k ≤ L ∧ i = .int .i64 k ∧ FS w2 wr v out ∧ out.length ≤ 65536 ∧ out = headT n L ++ (cls.take k).flatMap clauseT) (fun _ i _ => L - (intOf i).toNat)
        case atStart => exact ⟨0, headT n L, by omega, rfl, HFZ.out, (by have h1 := ITOA.out.1; have h2 := ITOA.out.2; unfold headT; simp only [List.length_append, List.length_cons, List.length_nil]; omega), by simp⟩
        case round =>
          obtain ⟨k, out, hk, rfl, hfs, hol, hout⟩ := hrel
          obtain ⟨wo, rfl⟩ : ∃ wo : World, wo = wr := ⟨_, rfl⟩
          have HFS := hid hfs; have HOL := hid hol; have HOUT := hid hout
          clear hfs hol hout
          by_cases hlt : k < L
          · have hkd : decide ((k : Int) < (L : Int)) = true := by simp; omega
            have hkc : k < cls.length := by have := HL.out; omega
            have hkv : k < vs.length := by have := HLL.out; omega
            obtain ⟨bk, off, rfl, hR1, hcell⟩ := HR.out.at k hkv
            have hbW : Below w.heap.size w wo := HB1.out.trans ((HB2.out.trans (HFS.out.bel.mono HB2.out.size)).mono (by have := HS1.out; omega))
            have hck := (hbW.cell (p := ⟨bk, off + k, none⟩) hR1).trans (hcell k hkv)
            obtain ⟨m, hm⟩ : ∃ m, cls[k].length = m := ⟨_, rfl⟩
            obtain ⟨pk, ck, hvk, hk1, hk2, hk3, hrk⟩ := (HX.out k hkc hkv).op
            have hrow := hrk.keep (R' := (· < w.heap.size)) (fun i hi => ⟨hi, rfl⟩)
            obtain ⟨hml, hma⟩ := litM_ok2 (litsM_ok2 HOK.out.2.2.2 cls[k] (List.getElem_mem hkc))
            have hbb := HBB.out _ (List.getElem_mem hkc)
            have htk : cls.take (k + 1) = cls.take k ++ [cls[k]] := by rw [List.take_succ_eq_append_getElem hkc]
            rw [hm] at hvk hml
            rw [hvk] at hck
            have HROW := hid hrow; have HML := hid hml; have HBBK := hid hbb; have HTK := hid htk; have HM := hid hm; have HBW := hid hbW
            obtain ⟨c, hc⟩ : ∃ c, cls[k] = c := ⟨_, rfl⟩
            rw [hc] at HROW HBBK HTK HM
            clear hcell hR1 hrk hrow hml hma hbb htk hm hvk hk1 hk2 hk3 hkc hkv hc hbW
            have hmb : m ≤ 4096 := HML.out
            go_wp2_with fail
            go_loopw [5, 38] (fun v j wr' => ∃ (q : Nat) (o2 : Bs), q ≤ m ∧ j = .int .i64 q ∧ FS w2 wr' v o2 ∧ o2.length ≤ 65536 + 22 * q ∧ o2 = out ++ (c.take q).flatMap (fun a => Lib.itoa a ++ [32])) (fun _ j _ => m - (intOf j).toNat)
            case atStart => exact ⟨0, out, by omega, rfl, HFS.out, by have := HOL.out; omega, by simp⟩
            case round =>
              obtain ⟨q, o2, hq, rfl, hf2, ho2, he2⟩ := hrel
              obtain ⟨wi, rfl⟩ : ∃ wi : World, wi = wr := ⟨_, rfl⟩
              have HF2 := hid hf2; have HO2 := hid ho2; have HE2 := hid he2
              clear hf2 ho2 he2
              by_cases hqm : q < m
              · have hqd : decide ((q : Int) < (m : Int)) = true := by simp; omega
                have hqc : q < c.length := by have := HM.out; omega
                obtain ⟨bq, oq, rfl, hRq, hcq⟩ := HROW.out.atI q hqc
                have hbI : Below w.heap.size w wi := HB1.out.trans ((HB2.out.trans (HF2.out.bel.mono HB2.out.size)).mono (by have := HS1.out; omega))
                have hcw := (hbI.cell (p := ⟨bq, oq + q, none⟩) hRq).trans (hcq q hqc)
                have htq : c.take (q + 1) = c.take q ++ [c[q]] := by rw [List.take_succ_eq_append_getElem hqc]
                have hbq := HBBK.out _ (List.getElem_mem hqc)
                obtain ⟨x, hx⟩ : ∃ x, c[q] = x := ⟨_, rfl⟩
                rw [hx] at hcw htq hbq
                have HBQ := hid hbq; have HTQ := hid htq; have HIL := hid (itoa_len x hbq.1 hbq.2); have HML2 := hid HML.out
                clear hbq htq hx hcq hbI hRq hqc
                go_wp2_with (first
                  | (go_at_call 22; refine (HF2.out.int x HBQ.out.1 HBQ.out.2 (by have := HO2.out; have := HML2.out; omega) HT2.out).mono ?_; rintro e w5 ⟨v5, rfl, hF5, hg5⟩; have HF5 := hid hF5; clear hF5 hg5)
                  | (at_builtin; refine wpList_appM rfl (.tmp 44) (.tmp 45) 37 37 rfl w2.heap.size 5 (.int .u8 0) Tryd.underlying37 info_u8 rfl v5 (o2 ++ Lib.itoa x).length (Lib.byteCells (o2 ++ Lib.itoa x)) rfl (HF5.out.alloc _).row (HF5.out.alloc _).bel.size (.slice (some ⟨w5.heap.size, 0, none⟩) 1 1) 1 (Lib.byteCells [32]) rfl (Lt.new w5 32).src (by have := HO2.out; have := HML2.out; have := HIL.out; rw [List.length_append]; omega) ?_; intro v6 w6 ho6 hg6 hv6; have HF6 := hid ((HF5.out.alloc _).grown (ys := [32]) rfl rfl ho6 hg6); clear ho6 hg6 hv6))
                go_roundw
                case rel =>
                  refine ⟨q + 1, _, by omega, by go_num, HF6.out, ?_, ?_⟩
                  · have := HO2.out; have := HIL.out
                    simp only [List.length_append, List.length_cons, List.length_nil]; omega
                  · rw [HTQ.out, HE2.out, List.flatMap_append]
                    simp only [List.flatMap_cons, List.flatMap_nil, List.append_nil, List.append_assoc]
                case measure => (simp [intOf] <;> omega)
              · obtain rfl : q = m := by omega
                obtain ⟨N, hN⟩ : ∃ N, o2.length + 2 = N := ⟨_, rfl⟩
                have hcl : o2 ++ [48, 10] = out ++ clauseT c := by
                  rw [HE2.out, List.take_of_length_le (Nat.le_of_eq HM.out)]
                  unfold clauseT
                  rw [List.append_assoc]
                have htx : o2 ++ [48, 10] = headT n L ++ (cls.take (k + 1)).flatMap clauseT := by
                  rw [hcl, HTK.out, HOUT.out, List.flatMap_append]
                  simp only [List.flatMap_cons, List.flatMap_nil, List.append_nil, List.append_assoc]
                have HN := hid hN; have HTX := hid htx
                clear hN hcl htx
                by_cases hbig : 65536 < N
                · have hbd : decide (65536 < (N : Int)) = true := by simp; omega
                  have HFM := hid (formatM_long (n := n) (cls := cls) HE0.out (k + 1) (by rw [HL.out, ← HTX.out]; have := HN.out; simp only [List.length_append, List.length_cons, List.length_nil]; omega))
                  go_wp2_with (first
                    | (at_builtin; refine wpList_appM rfl (.tmp 48) (.tmp 49) 37 37 rfl w2.heap.size 5 (.int .u8 0) Tryd.underlying37 info_u8 rfl _ o2.length (Lib.byteCells o2) rfl (HF2.out.alloc _).row (HF2.out.alloc _).bel.size (.slice (some ⟨wi.heap.size, 0, none⟩) 2 2) 2 (Lib.byteCells [48, 10]) rfl (src2 wi 48 10) (by have := HO2.out; have := HML.out; omega) ?_; intro v7 w7 ho7 hg7 hv7; have HF7 := hid ((HF2.out.alloc _).grown (ys := [48, 10]) rfl rfl ho7 hg7); obtain ⟨p7, k7, e7⟩ := ho7.slice; rw [HN.out] at e7; subst e7; clear ho7 hg7 hv7))
                  go_ret2
                  exact ⟨by rw [HFM.out]; rfl, HB1.out.trans ((HB2.out.trans (HF7.out.bel.mono HB2.out.size)).mono (by have := HS1.out; omega))⟩
                · have hbd : decide (65536 < (N : Int)) = false := by simp; omega
                  go_wp2_with (first
                    | (at_builtin; refine wpList_appM rfl (.tmp 48) (.tmp 49) 37 37 rfl w2.heap.size 5 (.int .u8 0) Tryd.underlying37 info_u8 rfl _ o2.length (Lib.byteCells o2) rfl (HF2.out.alloc _).row (HF2.out.alloc _).bel.size (.slice (some ⟨wi.heap.size, 0, none⟩) 2 2) 2 (Lib.byteCells [48, 10]) rfl (src2 wi 48 10) (by have := HO2.out; have := HML.out; omega) ?_; intro v7 w7 ho7 hg7 hv7; have HF7 := hid ((HF2.out.alloc _).grown (ys := [48, 10]) rfl rfl ho7 hg7); obtain ⟨p7, k7, e7⟩ := ho7.slice; rw [HN.out] at e7; subst e7; clear ho7 hg7 hv7))
                  go_roundw
                  case rel => exact ⟨k + 1, o2 ++ [48, 10], by omega, by go_num, HF7.out, (by have := HN.out; simp only [List.length_append, List.length_cons, List.length_nil]; omega), HTX.out⟩
                  case measure => (simp [intOf] <;> omega)
          · obtain rfl : k = L := by omega
            obtain ⟨pv, kv, rfl⟩ := HFS.out.op
            have hbd : decide (65536 < (out.length : Int)) = false := by have := HOL.out; simp; omega
            have htx : (convert 37 9 (.slice pv out.length kv)).run Tryd.prog wo = .ok (.string ⟨out.toArray⟩) wo := HFS.out.row.text Tryd.underlying37 Tryd.underlying5 Tryd.underlying9
            have HFM := hid (formatM_ok (n := n) (cls := cls) HE0.out (out := out) (by rw [HOUT.out, List.take_of_length_le (Nat.le_of_eq HL.out)]; unfold textM; rw [HL.out]) HOL.out)
            go_wp2_with fail
            go_ret2
            exact ⟨by rw [HFM.out]; rfl, HB1.out.trans ((HB2.out.trans (HFS.out.bel.mono HB2.out.size)).mono (by have := HS1.out; omega))⟩
    · intro K hK
      go_simp
      obtain ⟨ud7, hud7⟩ : ∃ x, (ud.alloc (.cells #[.int .u8 10] 5)) = x := ⟨_, rfl⟩
      have HFud7 := hid (show FS w2 ud7 vu ([112, 32, 99, 110, 102, 32] ++ Lib.itoa n) from by rw [← hud7]; exact HFud.out.alloc _)
      have HL7ud7 := hid (show Lt ud7 ud.heap.size 10 from by rw [← hud7]; exact Lt.new ud 10)
      rw [hud7]
      clear hud7
      have hSud7 := (HFud7.out.bel.cell (p := ⟨w.heap.size, 1, none⟩) HSZ2.out).trans r1
      refine hK _ _ (.inr (.inr hSud7)) ?_
      clear hK K
      refine wpHJ_only 1 (by kernel_rfl) rfl ?_
      intro K hK
      go_simp
      obtain ⟨ud71, hud71⟩ : ∃ x, (ud7.alloc (.cells #[.int .u8 32] 5)) = x := ⟨_, rfl⟩
      have HFud71 := hid (show FS w2 ud71 vu ([112, 32, 99, 110, 102, 32] ++ Lib.itoa n) from by rw [← hud71]; exact HFud7.out.alloc _)
      have HL1ud71 := hid (show Lt ud71 ud7.heap.size 32 from by rw [← hud71]; exact Lt.new ud7 32)
      have HL7ud71 := hid (show Lt ud71 ud.heap.size 10 from by rw [← hud71]; exact HL7ud7.out.alloc _)
      rw [hud71]
      clear hud71
      have hSud71 := (HFud71.out.bel.cell (p := ⟨w.heap.size, 1, none⟩) HSZ2.out).trans r1
      refine hK _ _ (.inr (.inr hSud71)) ?_
      clear hK K
      refine wpHJ_only 2 (by kernel_rfl) rfl ?_
      intro K hK
      refine wpIn_appM hFa (.tmp 20) (.tmp 21) 37 37 rfl w2.heap.size 5 (.int .u8 0) Tryd.underlying37 info_u8 rfl vu ([112, 32, 99, 110, 102, 32] ++ Lib.itoa n).length (Lib.byteCells ([112, 32, 99, 110, 102, 32] ++ Lib.itoa n)) rfl HFud71.out.row HFud71.out.bel.size (.slice (some ⟨ud7.heap.size, 0, none⟩) 1 1) 1 (Lib.byteCells [32]) rfl HL1ud71.out.src (by have h1 := ITOA.out.1; have h2 := ITOA.out.2; simp only [List.length_append, List.length_cons, List.length_nil]; omega) ?_
      intro vud712 ud712 ho hg hv
      have HFud712 := hid (HFud71.out.grown (ys := [32]) rfl rfl ho hg)
      have HL7ud712 := hid (HL7ud71.out.grown hg (own_ne1 HFud71.out.row (by simp) HL7ud71.out))
      clear ho hg hv
      have hSud712 := (HFud712.out.bel.cell (p := ⟨w.heap.size, 1, none⟩) HSZ2.out).trans r1
      refine hK _ _ (.inr (.inr hSud712)) ?_
      clear hK K
      refine wpHJ_only 6 (by kernel_rfl) rfl ?_
      intro K hK
      go_simp
      (with_reducible refine (callsIn_wide.2 (HFud712.out.int (L : Int) (by have := HOK.out.2.2.1; omega) (by have := HOK.out.2.2.1; omega) (by have h1 := ITOA.out.1; have h2 := ITOA.out.2; simp only [List.length_append, List.length_cons, List.length_nil]; omega) HT2.out)).mono ?_)
      rintro e ud7126 ⟨vud7126, rfl, hFud7126, hg⟩
      have HFud7126 := hid hFud7126
      have HL7ud7126 := hid (HL7ud712.out.grown hg (own_ne1 HFud712.out.row (by simp) HL7ud712.out))
      clear hg hFud7126
      have hSud7126 := (HFud7126.out.bel.cell (p := ⟨w.heap.size, 1, none⟩) HSZ2.out).trans r1
      refine hK _ _ (.inr (.inr hSud7126)) ?_
      clear hK K
      refine wpHJ_only 8 (by kernel_rfl) rfl ?_
      intro K hK
      refine wpIn_appM hFa (.tmp 26) (.tmp 27) 37 37 rfl w2.heap.size 5 (.int .u8 0) Tryd.underlying37 info_u8 rfl vud7126 ((([112, 32, 99, 110, 102, 32] ++ Lib.itoa n) ++ [32]) ++ Lib.itoa (L : Int)).length (Lib.byteCells ((([112, 32, 99, 110, 102, 32] ++ Lib.itoa n) ++ [32]) ++ Lib.itoa (L : Int))) rfl HFud7126.out.row HFud7126.out.bel.size (.slice (some ⟨ud.heap.size, 0, none⟩) 1 1) 1 (Lib.byteCells [10]) rfl HL7ud7126.out.src (by have h1 := ITOA.out.1; have h2 := ITOA.out.2; simp only [List.length_append, List.length_cons, List.length_nil]; omega) ?_
      intro vud71268 ud71268 ho hg hv
      have HFud71268 := hid (HFud7126.out.grown (ys := [10]) rfl rfl ho hg)
      clear ho hg hv
      have hSud71268 := (HFud71268.out.bel.cell (p := ⟨w.heap.size, 1, none⟩) HSZ2.out).trans r1
      refine hK _ _ (.inr (.inr hSud71268)) ?_
      clear hK K
      refine wpHJ_only 9 (by kernel_rfl) rfl ?_
      intro K hK
      go_simp
      refine hK _ _ (.inl rfl) ?_
      clear hK K
      refine wpHJ_done (by kernel_rfl) ?_ _
      simp only [onlyN, Exit.then]
      clear hFa
      obtain ⟨wz, hwz⟩ : ∃ x, ud71268 = x := ⟨_, rfl⟩
      obtain ⟨vz, hvz⟩ : ∃ x, vud71268 = x := ⟨_, rfl⟩
      have HFZ := hid (show FS w2 ud71268 vud71268 (headT n L) from by have h := HFud71268.out; unfold headT; simpa only [List.append_assoc] using h)
      rw [hwz, hvz] at HFZ
      obtain ⟨pz, kz, hvz2⟩ := HFZ.out.op
      have hz2 : vz = .slice pz (headT n L).length kz := hvz2
      clear hvz2
      rw [hwz, hvz]
      clear hwz hvz HFud hSud HFud7 hSud7 HL7ud7 HFud71 hSud71 HL7ud71 HL1ud71 HFud712 hSud712 HL7ud712 HFud7126 hSud7126 HL7ud7126 HFud71268 hSud71268
      have sz := (HFZ.out.bel.cell (p := ⟨w.heap.size, 1, none⟩) HSZ2.out).trans r1
      have HZ2 := hid hz2
      clear hz2
      go_wp2_with fail
      have hLb : L ≤ 1048576 := HOK.out.2.2.1
      go_loopw [5, 32] (fun v i wr => ∃ (k : Nat) (out : Bs), k ≤ L ∧ i = .int .i64 k ∧ FS w2 wr v out ∧ out.length ≤ 65536 ∧ out = headT n L ++ (cls.take k).flatMap clauseT) (fun _ i _ => L - (intOf i).toNat)
      case atStart => exact ⟨0, headT n L, by omega, rfl, HFZ.out, (by have h1 := ITOA.out.1; have h2 := ITOA.out.2; unfold headT; simp only [List.length_append, List.length_cons, List.length_nil]; omega), by simp⟩
      case round =>
        obtain ⟨k, out, hk, rfl, hfs, hol, hout⟩ := hrel
        obtain ⟨wo, rfl⟩ : ∃ wo : World, wo = wr := ⟨_, rfl⟩
        have HFS := hid hfs; have HOL := hid hol; have HOUT := hid hout
        clear hfs hol hout
        by_cases hlt : k < L
        · have hkd : decide ((k : Int) < (L : Int)) = true := by simp; omega
          have hkc : k < cls.length := by have := HL.out; omega
          have hkv : k < vs.length := by have := HLL.out; omega
          obtain ⟨bk, off, rfl, hR1, hcell⟩ := HR.out.at k hkv
          have hbW : Below w.heap.size w wo := HB1.out.trans ((HB2.out.trans (HFS.out.bel.mono HB2.out.size)).mono (by have := HS1.out; omega))
          have hck := (hbW.cell (p := ⟨bk, off + k, none⟩) hR1).trans (hcell k hkv)
          obtain ⟨m, hm⟩ : ∃ m, cls[k].length = m := ⟨_, rfl⟩
          obtain ⟨pk, ck, hvk, hk1, hk2, hk3, hrk⟩ := (HX.out k hkc hkv).op
          have hrow := hrk.keep (R' := (· < w.heap.size)) (fun i hi => ⟨hi, rfl⟩)
          obtain ⟨hml, hma⟩ := litM_ok2 (litsM_ok2 HOK.out.2.2.2 cls[k] (List.getElem_mem hkc))
          have hbb := HBB.out _ (List.getElem_mem hkc)
          have htk : cls.take (k + 1) = cls.take k ++ [cls[k]] := by rw [List.take_succ_eq_append_getElem hkc]
          rw [hm] at hvk hml
          rw [hvk] at hck
          have HROW := hid hrow; have HML := hid hml; have HBBK := hid hbb; have HTK := hid htk; have HM := hid hm; have HBW := hid hbW
          obtain ⟨c, hc⟩ : ∃ c, cls[k] = c := ⟨_, rfl⟩
          rw [hc] at HROW HBBK HTK HM
          clear hcell hR1 hrk hrow hml hma hbb htk hm hvk hk1 hk2 hk3 hkc hkv hc hbW
          have hmb : m ≤ 4096 := HML.out
          go_wp2_with fail
          go_loopw [5, 38] (fun v j wr' => ∃ (q : Nat) (o2 : Bs), q ≤ m ∧ j = .int .i64 q ∧ FS w2 wr' v o2 ∧ o2.length ≤ 65536 + 22 * q ∧ o2 = out ++ (c.take q).flatMap (fun a => Lib.itoa a ++ [32])) (fun _ j _ => m - (intOf j).toNat)
          case atStart => exact ⟨0, out, by omega, rfl, HFS.out, by have := HOL.out; omega, by simp⟩
          case round =>
            obtain ⟨q, o2, hq, rfl, hf2, ho2, he2⟩ := hrel
            obtain ⟨wi, rfl⟩ : ∃ wi : World, wi = wr := ⟨_, rfl⟩
            have HF2 := hid hf2; have HO2 := hid ho2; have HE2 := hid he2
            clear hf2 ho2 he2
            by_cases hqm : q < m
            · have hqd : decide ((q : Int) < (m : Int)) = true := by simp; omega
              have hqc : q < c.length := by have := HM.out; omega
              obtain ⟨bq, oq, rfl, hRq, hcq⟩ := HROW.out.atI q hqc
              have hbI : Below w.heap.size w wi := HB1.out.trans ((HB2.out.trans (HF2.out.bel.mono HB2.out.size)).mono (by have := HS1.out; omega))
              have hcw := (hbI.cell (p := ⟨bq, oq + q, none⟩) hRq).trans (hcq q hqc)
              have htq : c.take (q + 1) = c.take q ++ [c[q]] := by rw [List.take_succ_eq_append_getElem hqc]
              have hbq := HBBK.out _ (List.getElem_mem hqc)
              obtain ⟨x, hx⟩ : ∃ x, c[q] = x := ⟨_, rfl⟩
              rw [hx] at hcw htq hbq
              have HBQ := hid hbq; have HTQ := hid htq; have HIL := hid (itoa_len x hbq.1 hbq.2); have HML2 := hid HML.out
              clear hbq htq hx hcq hbI hRq hqc
              go_wp2_with (first
                | (go_at_call 22; refine (HF2.out.int x HBQ.out.1 HBQ.out.2 (by have := HO2.out; have := HML2.out; omega) HT2.out).mono ?_; rintro e w5 ⟨v5, rfl, hF5, hg5⟩; have HF5 := hid hF5; clear hF5 hg5)
                | (at_builtin; refine wpList_appM rfl (.tmp 44) (.tmp 45) 37 37 rfl w2.heap.size 5 (.int .u8 0) Tryd.underlying37 info_u8 rfl v5 (o2 ++ Lib.itoa x).length (Lib.byteCells (o2 ++ Lib.itoa x)) rfl (HF5.out.alloc _).row (HF5.out.alloc _).bel.size (.slice (some ⟨w5.heap.size, 0, none⟩) 1 1) 1 (Lib.byteCells [32]) rfl (Lt.new w5 32).src (by have := HO2.out; have := HML2.out; have := HIL.out; rw [List.length_append]; omega) ?_; intro v6 w6 ho6 hg6 hv6; have HF6 := hid ((HF5.out.alloc _).grown (ys := [32]) rfl rfl ho6 hg6); clear ho6 hg6 hv6))
              go_roundw
              case rel =>
                refine ⟨q + 1, _, by omega, by go_num, HF6.out, ?_, ?_⟩
                · have := HO2.out; have := HIL.out
                  simp only [List.length_append, List.length_cons, List.length_nil]; omega
                · rw [HTQ.out, HE2.out, List.flatMap_append]
                  simp only [List.flatMap_cons, List.flatMap_nil, List.append_nil, List.append_assoc]
              case measure => (simp [intOf] <;> omega)
            · obtain rfl : q = m := by omega
              obtain ⟨N, hN⟩ : ∃ N, o2.length + 2 = N := ⟨_, rfl⟩
              have hcl : o2 ++ [48, 10] = out ++ clauseT c := by
                rw [HE2.out, List.take_of_length_le (Nat.le_of_eq HM.out)]
                unfold clauseT
                rw [List.append_assoc]
              have htx : o2 ++ [48, 10] = headT n L ++ (cls.take (k + 1)).flatMap clauseT := by
                rw [hcl, HTK.out, HOUT.out, List.flatMap_append]
                simp only [List.flatMap_cons, List.flatMap_nil, List.append_nil, List.append_assoc]
              have HN := hid hN; have HTX := hid htx
              clear hN hcl htx
              by_cases hbig : 65536 < N
              · have hbd : decide (65536 < (N : Int)) = true := by simp; omega
                have HFM := hid (formatM_long (n := n) (cls := cls) HE0.out (k + 1) (by rw [HL.out, ← HTX.out]; have := HN.out; simp only [List.length_append, List.length_cons, List.length_nil]; omega))
                go_wp2_with (first
                  | (at_builtin; refine wpList_appM rfl (.tmp 48) (.tmp 49) 37 37 rfl w2.heap.size 5 (.int .u8 0) Tryd.underlying37 info_u8 rfl _ o2.length (Lib.byteCells o2) rfl (HF2.out.alloc _).row (HF2.out.alloc _).bel.size (.slice (some ⟨wi.heap.size, 0, none⟩) 2 2) 2 (Lib.byteCells [48, 10]) rfl (src2 wi 48 10) (by have := HO2.out; have := HML.out; omega) ?_; intro v7 w7 ho7 hg7 hv7; have HF7 := hid ((HF2.out.alloc _).grown (ys := [48, 10]) rfl rfl ho7 hg7); obtain ⟨p7, k7, e7⟩ := ho7.slice; rw [HN.out] at e7; subst e7; clear ho7 hg7 hv7))
                go_ret2
                exact ⟨by rw [HFM.out]; rfl, HB1.out.trans ((HB2.out.trans (HF7.out.bel.mono HB2.out.size)).mono (by have := HS1.out; omega))⟩
              · have hbd : decide (65536 < (N : Int)) = false := by simp; omega
                go_wp2_with (first
                  | (at_builtin; refine wpList_appM rfl (.tmp 48) (.tmp 49) 37 37 rfl w2.heap.size 5 (.int .u8 0) Tryd.underlying37 info_u8 rfl _ o2.length (Lib.byteCells o2) rfl (HF2.out.alloc _).row (HF2.out.alloc _).bel.size (.slice (some ⟨wi.heap.size, 0, none⟩) 2 2) 2 (Lib.byteCells [48, 10]) rfl (src2 wi 48 10) (by have := HO2.out; have := HML.out; omega) ?_; intro v7 w7 ho7 hg7 hv7; have HF7 := hid ((HF2.out.alloc _).grown (ys := [48, 10]) rfl rfl ho7 hg7); obtain ⟨p7, k7, e7⟩ := ho7.slice; rw [HN.out] at e7; subst e7; clear ho7 hg7 hv7))
                go_roundw
                case rel => exact ⟨k + 1, o2 ++ [48, 10], by omega, by go_num, HF7.out, (by have := HN.out; simp only [List.length_append, List.length_cons, List.length_nil]; omega), HTX.out⟩
                case measure => (simp [intOf] <;> omega)
        · obtain rfl : k = L := by omega
          obtain ⟨pv, kv, rfl⟩ := HFS.out.op
          have hbd : decide (65536 < (out.length : Int)) = false := by have := HOL.out; simp; omega
          have htx : (convert 37 9 (.slice pv out.length kv)).run Tryd.prog wo = .ok (.string ⟨out.toArray⟩) wo := HFS.out.row.text Tryd.underlying37 Tryd.underlying5 Tryd.underlying9
          have HFM := hid (formatM_ok (n := n) (cls := cls) HE0.out (out := out) (by rw [HOUT.out, List.take_of_length_le (Nat.le_of_eq HL.out)]; unfold textM; rw [HL.out]) HOL.out)
          go_wp2_with fail
          go_ret2
          exact ⟨by rw [HFM.out]; rfl, HB1.out.trans ((HB2.out.trans (HFS.out.bel.mono HB2.out.size)).mono (by have := HS1.out; omega))⟩
  · have hzd : (e0 != 0) = true := by simp [hz]
    have HF := hid (show formatM n cls = ([], e0) from by unfold formatM; rw [HE0.out, if_pos hz])
    clear hz
    go_enter Tryd.func13, Tryd.ntmps13
    go_wp2_with (first | (rw [HW1.out]) | (go_at_call 19; with_reducible refine HCALL.out.mono ?_; rintro e w2 ⟨rfl, hb2⟩; have HB2 := hid hb2; clear hb2))
    go_ret2
    exact ⟨by rw [HF.out]; rfl, HB1.out.trans (HB2.out.mono HB1.out.size)⟩

end Go.Proofs.YtfllhhgnflpagaaDoor
