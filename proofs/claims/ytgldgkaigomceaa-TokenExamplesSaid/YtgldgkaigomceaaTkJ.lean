/-
  The walk of TokenJoins: a text, a line feed and another text.
-/
import Derived.Test.YtgldgkaigomceaaTkS
import Derived.Test.YtgldgkaigomceaaTkPJ
import Derived.Test.YtgldgkaigomceaaTkLn
import Derived.BigFrame
import Derived.Laws.OwnMore
namespace Go.Proofs.Ytgldgkaigomceaa
set_option linter.unusedSimpArgs false
set_option linter.unusedVariables false
open Go.RowKit Go.Shelf
attribute [local go_sem] Oper.semAt_some

theorem linesR_tok (l : Bs) (h : l.length ≤ 65536) : linesR l = match tok l with
    | .error (L, C) => .error (L, C, 4)
    | .ok o => .ok o := by
  unfold linesR
  rw [if_neg (by omega)]
  cases tok l <;> rfl
theorem lines_err {l : Bs} {L C : Nat} {c : Int} (h : linesR l = .error (L, C, c)) (m : Int) (w : World) (hm : w.cell? ⟨0, 0, none⟩ = some (.int .i64 m)) : Calls Try.prog 9 #[.string ⟨l.toArray⟩] w fun e w' => Below w.heap.size w w' ∧ e = .returned (.tuple #[.slice none 0 0, .agg #[.int .i64 (L : Int), .int .i64 (C : Int)], .int .i64 c]) := by
  have := lines_any l m w hm; unfold LinesPost at this; rw [h] at this; exact this
theorem lines_ok {l : Bs} {out : List (List Wd)} (h : linesR l = .ok out) (m : Int) (w : World) (hm : w.cell? ⟨0, 0, none⟩ = some (.int .i64 m)) : Calls Try.prog 9 #[.string ⟨l.toArray⟩] w fun e w' => Below w.heap.size w w' ∧ ∃ p c, e = .returned (.tuple #[.slice p out.length c, .agg #[.int .i64 0, .int .i64 0], .int .i64 0]) ∧ WLL (fun k => w.heap.size ≤ k ∧ Soft w' k) w' (.slice p out.length c) out ∧ WLS w.heap.size 29 w' (.slice p out.length c) out := by
  have := lines_any l m w hm; unfold LinesPost at this; rw [h] at this
  refine this.mono ?_
  rintro e w' ⟨hb, v, he, h1, h2⟩
  obtain ⟨p, c, rfl⟩ := h1.slc
  exact ⟨hb, p, c, he, h1, h2⟩
theorem lines_gen (l : Bs) (m : Int) (w : World) (hm : w.cell? ⟨0, 0, none⟩ = some (.int .i64 m)) : Calls Try.prog 9 #[.string ⟨l.toArray⟩] w fun e w' => Below w.heap.size w w' ∧ ∃ p n c L C x, e = .returned (.tuple #[.slice p n c, .agg #[.int .i64 L, .int .i64 C], .int .i64 x]) := by
  cases h : linesR l with
  | error q => obtain ⟨L, C, c⟩ := q; exact (lines_err h m w hm).mono fun e w' h => ⟨h.1, _, _, _, _, _, _, h.2⟩
  | ok out => exact (lines_ok h m w hm).mono fun e w' ⟨h1, p, c, h2, _⟩ => ⟨h1, _, _, _, _, _, _, h2⟩

theorem wpList_appW {P : Program} {ops : Array Oper} {rest : List Oper} {o : Oper} {a : Act} {w : World} {Q : Exit → Act → World → Prop} (hw : Region.wanted o (yielded ops a.tmps) = true) (s x : Operand) (t : TypeId)
    (ho : o.op = .call { callee := .builtin .append, args := #[s, x], argTypes := #[t, t] }) (sv xv : Value) (hs : a.eval s = sv) (hx : a.eval x = xv) {v' : Value} {w' : World}
    (hrun : (Builtin.append_ #[t, t] o.type #[sv, xv]).run P w = .ok v' w') (h : wpList P ops Q rest (a.put o.dst v') w') : wpList P ops Q (o :: rest) a w := by
  refine BigFrame.wpList_want hw fun K hK => ?_
  unfold Oper.wp execOp
  simp only [ho, resolve, invoke, builtin, Sem.run_bind, Sem.run_pure, Result.andThen_ok, List.map_toArray, List.map_cons, List.map_nil, hs, hx, hrun]
  exact hK _ _ h

/-- Lines are appended to lines. -/
theorem app_lines {A B : Nat} {w : World} {va vb : Value} {xs bs : List Value} {oa ob : List (List Wd)} (ha : WLV A 29 w va xs oa) (hb : WLV B 29 w vb bs ob) (hA : A ≤ w.heap.size) (hl : oa.length + ob.length ≤ 1000000)
    (hap : ∀ k, B ≤ k → va.ownBlock ≠ some k) :
    ∃ v' w', (Builtin.append_ #[22, 22] 22 #[va, vb]).run Try.prog w = .ok v' w' ∧ w.grownBy w' va.ownBlock ∧ (∃ p c, v' = .slice p (oa.length + ob.length) c) ∧ WLL (fun k => k < w'.heap.size) w' v' (oa ++ ob) := by
  have key : ∀ v' w', w'.ownsRow A 29 1 v' (oa.length + ob.length) (xs ++ bs) → w.grownBy w' va.ownBlock → WLL (fun k => k < w'.heap.size) w' v' (oa ++ ob) := by
    intro v' w' ho hg
    refine ⟨xs ++ bs, Sl.of_owns ho (by omega) fun k hk => (ho.lt k hk).2, by rw [List.length_append, List.length_append, ha.2.1, hb.2.1], fun i hi hi' => ?_⟩
    by_cases h : i < oa.length
    · have h' : i < xs.length := by have := ha.2.1; omega
      rw [List.getElem_append_left h', List.getElem_append_left h]
      refine (ha.2.2.1 i h h').keep fun k hk => ?_
      obtain ⟨q1, q2, q3⟩ := ha.2.2.2.1 _ (List.getElem_mem h') k hk
      exact ⟨Nat.lt_of_lt_of_le q2.size hg.size, hg.block k q2.size fun e => q3 e.symm⟩
    · have h1 := ha.2.1
      have h2 := hb.2.1
      rw [List.length_append] at hi hi'
      have e1 : (xs ++ bs)[i]'(by rw [List.length_append]; omega) = bs[i - xs.length]'(by omega) := List.getElem_append_right (by omega)
      have e2 : (oa ++ ob)[i]'(by rw [List.length_append]; omega) = ob[i - oa.length]'(by omega) := List.getElem_append_right (by omega)
      rw [e1, e2]
      have e3 : i - xs.length = i - oa.length := by omega
      have h3 : i - oa.length < bs.length := by omega
      have e4 : bs[i - xs.length]'(by omega) = bs[i - oa.length]'h3 := by simp only [e3]
      rw [e4]
      refine (hb.2.2.1 (i - oa.length) (by omega) h3).keep fun k hk => ?_
      obtain ⟨q1, q2, q3⟩ := hb.2.2.2.1 _ (List.getElem_mem h3) k hk
      exact ⟨Nat.lt_of_lt_of_le q2.size hg.size, hg.block k q2.size fun e => hap k q1 e.symm⟩
  obtain ⟨i, hi, hz, hs1, hby⟩ := info_parts info_Words
  rcases hb.1.2 with ⟨rfl, h0⟩ | ⟨g, cap, cur, rfl, hbg, hg, hnc, hcm, hcs, ht⟩
  · have hbs : bs = [] := List.eq_nil_of_length_eq_zero (by have := hb.2.1; omega)
    have hob : ob = [] := List.eq_nil_of_length_eq_zero h0
    subst hbs
    subst hob
    have hg : w.grownBy w va.ownBlock := ⟨rfl, rfl, rfl, Nat.le_refl _, fun _ _ _ => rfl⟩
    obtain ⟨p, c, e⟩ := own_sliceG ha.1
    exact ⟨va, w, run_append_owned_none (P := Try.prog) (w := w) A 22 22 29 i 1 Try.underlying22 hi va oa.length xs ha.1, hg, ⟨p, c, e⟩, key va w (by simpa using ha.1) hg⟩
  · have hr : RowR (fun _ => True) w (some ⟨g, 0, none⟩) bs := by
      rcases Nat.eq_zero_or_pos bs.length with h0 | h0
      · exact .inl (List.eq_nil_of_length_eq_zero h0)
      · obtain ⟨g', cap', e, hbg', hrow⟩ := hb.row 0 h0
        injection e with e1 e2 e3
        injection e1 with e1
        injection e1 with e1
        subst e1
        exact .inr ⟨g, 0, rfl, trivial, fun j hj => by rw [Nat.zero_add]; exact hrow j hj⟩
    obtain ⟨v', w', hrun, hown, hgr, _⟩ := run_appG (P := Try.prog) w A 22 22 29 (.slice none 0 0) 1 24 Try.underlying22 info_Words rfl (by decide) va oa.length xs ha.1 ⟨g, 0, none⟩ ob.length cap bs (by rw [hb.2.1, Nat.mul_one]) hr
      (fun u hu => by
        obtain ⟨k, hk, rfl⟩ := List.getElem_of_mem hu
        obtain ⟨p, c, e, _⟩ := hb.2.2.1 k (by have := hb.2.1; omega) hk
        rw [e]; rfl) (by omega) (by unfold maxLen; omega) hA
    exact ⟨v', w', hrun, hgr, own_sliceG hown, key v' w' hown hgr⟩

theorem dn_cells (d : Nat) (x : Wd) : wcells (dnW d x) = (wcells x).set 1 (.int .i64 ((x.2.1 + d : Nat) : Int)) := rfl
theorem catNL (a b : Bs) : (⟨a.toArray⟩ : ByteArray) ++ ⟨#[10]⟩ ++ ⟨b.toArray⟩ = ⟨(a ++ 10 :: b).toArray⟩ := by
  rw [ByteArray.mk_append_mk, ByteArray.mk_append_mk]
  simp

theorem WLV.down {B eo : Nat} {w : World} {v : Value} {bs : List Value} {o : List (List Wd)} {d i j : Nat} (h : WLV B eo w v bs (part d i j o)) (hi : i < o.length) (hi' : i < bs.length) (hj : j < o[i].length) {b off len c : Nat}
    (hv : bs[i] = .slice (some ⟨b, off, none⟩) len c) (z : Int) (hz : z = (o[i][j].2.1 : Int) + (d : Int)) : WLV B eo (w.setCell ⟨b, off + j * 3 + 1, none⟩ (.int .i64 z)) v bs (part d i (j + 1) o) := by
  have hr := part_row d i j o hi
  have := h.set i (by rw [part_len]; exact hi) hi' j (by rw [hr]; exact hj) 1 (by omega) hv (.int .i64 z) (dnW d o[i][j]) (by rw [part_word d i j o hi hj, dn_cells, hz]; rfl)
  rw [part_set d i j o hi hj] at this
  exact this
theorem WLV.lineno {B eo : Nat} {w : World} {v : Value} {bs : List Value} {o : List (List Wd)} {d i j : Nat} (h : WLV B eo w v bs (part d i j o)) (hi : i < o.length) (hi' : i < bs.length) (hj : j < o[i].length) {p : Option Addr} {len c : Nat}
    (hv : bs[i] = .slice p len c) : ∃ b off, p = some ⟨b, off, none⟩ ∧ B ≤ b ∧ Soft w b ∧ w.cell? ⟨b, off + j * 3 + 1, none⟩ = some (.int .i64 (o[i][j].2.1 : Int)) := by
  have hr := part_row d i j o hi
  obtain ⟨p', c', e, _, _, hc⟩ := h.word i (by rw [part_len]; exact hi) hi'
  rw [hv] at e
  injection e with e1 e2 e3
  subst e1
  obtain ⟨b, off, rfl, q1, q2, q3⟩ := hc j (by rw [hr]; exact hj)
  refine ⟨b, off, rfl, q1, q2, ?_⟩
  have := (q3 j (by rw [hr]; exact hj)).2.1
  rw [part_word d i j o hi hj] at this
  exact this
theorem Fr.setC {R : Nat → Prop} {a b : World} (h : Fr R R a b) {p : Addr} (hp : ¬ R p.block) (u : Value) : Fr R R a (b.setCell p u) :=
  ⟨h.os, h.tape, h.output, by simpa using h.size, fun k hk => ⟨(h.keep k hk).1, (Below.heap_setCell _ _ _ _ (fun e => hp (by rw [← e]; exact hk))).trans (h.keep k hk).2⟩⟩

set_option maxRecDepth 100000 in
set_option maxHeartbeats 4000000 in
theorem joins_walk (sb tb : ByteArray) (m : Int) (w : World) (hs : sb.size ≤ 9223372036854775807) (ht : tb.size ≤ 9223372036854775807) (hm : w.cell? ⟨0, 0, none⟩ = some (.int .i64 m)) :
    Calls Try.prog 6 #[.string sb, .string tb] w fun e w' => e = .returned (.bool true) ∧ Below w.heap.size w w' := by
  have h0 : 0 < w.heap.size := World.block_lt_of_cell? w _ hm
  have HM := hid hm
  clear hm
  go_enter Try.func6, Try.ntmps6
  go_wp2_with fail
  go_quiet (fail)
  go_wp2_with fail
  have hx : (sb.extract 0 (min (↑sb.size) 300 : Int).toNat).size ≤ 300 := by
    show (sb.extract 0 _).data.size ≤ 300
    rw [ByteArray.data_extract, Array.size_extract]; omega
  have hy : (tb.extract 0 (min (↑tb.size) 300 : Int).toNat).size ≤ 300 := by
    show (tb.extract 0 _).data.size ≤ 300
    rw [ByteArray.data_extract, Array.size_extract]; omega
  generalize sb.extract 0 (min (↑sb.size) 300 : Int).toNat = sc at *
  generalize tb.extract 0 (min (↑tb.size) 300 : Int).toNat = tc at *
  obtain ⟨l1, rfl, hl1⟩ := ba_list sc
  obtain ⟨l2, rfl, hl2⟩ := ba_list tc
  have hn1 : l1.length ≤ 300 := by omega
  have hn2 : l2.length ≤ 300 := by omega
  have hz1 : (⟨l1.toArray⟩ : ByteArray).size = l1.length := size_mk l1
  have hz2 : (⟨l2.toArray⟩ : ByteArray).size = l2.length := size_mk l2
  clear hx hy hl1 hl2 hs ht
  obtain ⟨W0, hW0⟩ : ∃ W0, w.drewN nq = W0 := ⟨_, rfl⟩
  rw [hW0]
  have HB0 := hid (show Below w.heap.size w W0 from by rw [← hW0]; exact below_drewN' (Below.refl _ _) _)
  clear hW0
  have hcat := catNL l1 l2
  have e1 := linesR_tok l1 (by omega)
  have e2 := linesR_tok l2 (by omega)
  have e3 := linesR_tok (l1 ++ 10 :: l2) (by simp; omega)
  rw [tok_join] at e3
  have hcn : l1.count 10 ≤ l1.length := List.count_le_length
  have hHC : ∀ w, Calls Try.prog 16 #[.string ⟨l1.toArray⟩, .string ⟨#[10]⟩] w fun e w' => e = .returned (.int .i64 (l1.count 10 : Nat)) ∧ w' = w := fun w => Try.strings_Count_one ⟨l1.toArray⟩ 10 w
  have HCN := hid hHC
  have hb1' : ∀ L C, tok l2 = .error (L, C) → L ≤ 301 := fun L C h => ls_err 301 l2.length 1 l2 [] L C (Nat.le_refl _) (by omega) h
  have hb2' : ∀ r, tok l2 = .ok r → ∀ ws ∈ r, ∀ x ∈ ws, x.2.1 ≤ 301 := fun r h => ls_mem 301 l2.length 1 l2 [] r (Nat.le_refl _) (by omega) (by simp) h
  have hlo1 : ∀ r, tok l1 = .ok r → r.length ≤ 301 := fun r h => tok_len l1 r h (by omega)
  have hlo2 : ∀ r, tok l2 = .ok r → r.length ≤ 301 := fun r h => tok_len l2 r h (by omega)
  generalize l1.count 10 = cn at *
  clear hHC
  cases h1 : tok l1 with
  | error q =>
    obtain ⟨L, C⟩ := q
    rw [h1] at e1 e3
    have HA := hid (lines_err e1 m); have HC := hid (lines_err e3 m)
    clear e1 e2 e3 h1 hb1' hb2' hlo1 hlo2
    generalize (L : Int) = L at *
    generalize (C : Int) = C at *
    refine (HA.out W0 ((HB0.out.cell h0).trans HM.out)).mono ?_
    rintro e w1 ⟨hb1, rfl⟩
    go_wp2_with fail
    obtain ⟨W1, hW1⟩ : ∃ W, w1.alloc (.cells #[.int .i64 L, .int .i64 C] 24) = W := ⟨_, rfl⟩
    rw [hW1]
    have hx1 : W1.heap[w1.heap.size]? = some (.cells #[.int .i64 L, .int .i64 C] 24 (0, 0)) := by rw [← hW1, heap_al, if_pos rfl]
    have hsz1 : W1.heap.size = w1.heap.size + 1 := by rw [← hW1, World.size_alloc]
    have hal1 : ∀ k, k < w1.heap.size → W1.heap[k]? = w1.heap[k]? := fun k hk => by rw [← hW1, heap_al, if_neg (by omega)]
    have hbw1 : Below W0.heap.size W0 W1 := by rw [← hW1]; exact hb1.alloc hb1.size _
    have hb1s := hb1.size
    have HB1 := hid (HB0.out.trans (hbw1.mono HB0.out.size))
    have HX1 := hid hx1; have HW1 := hid hW1; have HAL1 := hid hal1; have HBW1 := hid hbw1
    clear hb1 hW1 hx1 hal1 hbw1
    refine (lines_gen l2 m W1 ((HB1.out.cell h0).trans HM.out)).mono ?_
    rintro e w2 ⟨hb2, p2, n2, c2, L2, C2, x2, rfl⟩
    go_wp2_with fail
    obtain ⟨W2, hW2⟩ : ∃ W, w2.alloc (.cells #[.int .i64 L2, .int .i64 C2] 24) = W := ⟨_, rfl⟩
    rw [hW2]
    have hx2 : W2.heap[w2.heap.size]? = some (.cells #[.int .i64 L2, .int .i64 C2] 24 (0, 0)) := by rw [← hW2, heap_al, if_pos rfl]
    have hsz2 : W2.heap.size = w2.heap.size + 1 := by rw [← hW2, World.size_alloc]
    have hal2 : ∀ k, k < w2.heap.size → W2.heap[k]? = w2.heap[k]? := fun k hk => by rw [← hW2, heap_al, if_neg (by omega)]
    have hbw2 : Below W1.heap.size W1 W2 := by rw [← hW2]; exact hb2.alloc hb2.size _
    have hb2s := hb2.size
    have HB2 := hid (HB1.out.trans (hbw2.mono HB1.out.size))
    have HX2 := hid hx2; have HW2 := hid hW2; have HAL2 := hid hal2; have HBW2 := hid hbw2
    clear hb2 hW2 hx2 hal2 hbw2
    try rw [hcat]
    refine (HC.out W2 ((HB2.out.cell h0).trans HM.out)).mono ?_
    rintro e w3 ⟨hb3, rfl⟩
    go_wp2_with fail
    obtain ⟨W3, hW3⟩ : ∃ W, w3.alloc (.cells #[.int .i64 L, .int .i64 C] 24) = W := ⟨_, rfl⟩
    rw [hW3]
    have hx3 : W3.heap[w3.heap.size]? = some (.cells #[.int .i64 L, .int .i64 C] 24 (0, 0)) := by rw [← hW3, heap_al, if_pos rfl]
    have hsz3 : W3.heap.size = w3.heap.size + 1 := by rw [← hW3, World.size_alloc]
    have hal3 : ∀ k, k < w3.heap.size → W3.heap[k]? = w3.heap[k]? := fun k hk => by rw [← hW3, heap_al, if_neg (by omega)]
    have hbw3 : Below W2.heap.size W2 W3 := by rw [← hW3]; exact hb3.alloc hb3.size _
    have hb3s := hb3.size
    have HB3 := hid (HB2.out.trans (hbw3.mono HB2.out.size))
    have HX3 := hid hx3; have HW3 := hid hW3; have HAL3 := hid hal3; have HBW3 := hid hbw3
    clear hb3 hW3 hx3 hal3 hbw3
    refine (HCN.out W3).mono ?_
    rintro e w4 ⟨rfl, rfl⟩
    obtain ⟨c1, c1', _, _⟩ := cell_lit2 ((HBW3.out.block _ (by omega)).trans ((HBW2.out.block _ (by omega)).trans HX1.out))
    obtain ⟨c3, c3', _, _⟩ := cell_lit2 HX3.out
    go_wp2_with fail
    refine (awake_any m w4 ((HB3.out.cell h0).trans HM.out)).mono ?_
    rintro e w5 ⟨rfl, hb5⟩
    go_wp2
    go_ret
    exact ⟨rfl, HB3.out.trans (hb5.mono HB3.out.size)⟩
  | ok o1 =>
    rw [h1] at e1 e3
    have ho1 := hlo1 _ h1
    cases h2 : tok l2 with
    | error q =>
      obtain ⟨L, C⟩ := q
      rw [h2] at e2 e3
      have hLs := hb1' _ _ h2
      have HA := hid (lines_ok e1 m); have HBq := hid (lines_err e2 m); have HC := hid (lines_err e3 m)
      clear e1 e2 e3 h1 h2 hb1' hb2' hlo1 hlo2
      have hsum : ((L + (1 + cn) : Nat) : Int) = (L : Int) + (1 + (cn : Int)) := by omega
      rw [hsum] at HC
      generalize (C : Int) = C at *
      refine (HA.out W0 ((HB0.out.cell h0).trans HM.out)).mono ?_
      rintro e w1 ⟨hb1, p1, c1v, rfl, _, _⟩
      go_wp2_with fail
      obtain ⟨W1, hW1⟩ : ∃ W, w1.alloc (.cells #[.int .i64 0, .int .i64 0] 24) = W := ⟨_, rfl⟩
      rw [hW1]
      have hx1 : W1.heap[w1.heap.size]? = some (.cells #[.int .i64 0, .int .i64 0] 24 (0, 0)) := by rw [← hW1, heap_al, if_pos rfl]
      have hsz1 : W1.heap.size = w1.heap.size + 1 := by rw [← hW1, World.size_alloc]
      have hal1 : ∀ k, k < w1.heap.size → W1.heap[k]? = w1.heap[k]? := fun k hk => by rw [← hW1, heap_al, if_neg (by omega)]
      have hbw1 : Below W0.heap.size W0 W1 := by rw [← hW1]; exact hb1.alloc hb1.size _
      have hb1s := hb1.size
      have HB1 := hid (HB0.out.trans (hbw1.mono HB0.out.size))
      have HX1 := hid hx1; have HW1 := hid hW1; have HAL1 := hid hal1; have HBW1 := hid hbw1
      clear hb1 hW1 hx1 hal1 hbw1
      refine (HBq.out W1 ((HB1.out.cell h0).trans HM.out)).mono ?_
      rintro e w2 ⟨hb2, rfl⟩
      go_wp2_with fail
      obtain ⟨W2, hW2⟩ : ∃ W, w2.alloc (.cells #[.int .i64 (L : Int), .int .i64 C] 24) = W := ⟨_, rfl⟩
      rw [hW2]
      have hx2 : W2.heap[w2.heap.size]? = some (.cells #[.int .i64 (L : Int), .int .i64 C] 24 (0, 0)) := by rw [← hW2, heap_al, if_pos rfl]
      have hsz2 : W2.heap.size = w2.heap.size + 1 := by rw [← hW2, World.size_alloc]
      have hal2 : ∀ k, k < w2.heap.size → W2.heap[k]? = w2.heap[k]? := fun k hk => by rw [← hW2, heap_al, if_neg (by omega)]
      have hbw2 : Below W1.heap.size W1 W2 := by rw [← hW2]; exact hb2.alloc hb2.size _
      have hb2s := hb2.size
      have HB2 := hid (HB1.out.trans (hbw2.mono HB1.out.size))
      have HX2 := hid hx2; have HW2 := hid hW2; have HAL2 := hid hal2; have HBW2 := hid hbw2
      clear hb2 hW2 hx2 hal2 hbw2
      try rw [hcat]
      refine (HC.out W2 ((HB2.out.cell h0).trans HM.out)).mono ?_
      rintro e w3 ⟨hb3, rfl⟩
      go_wp2_with fail
      obtain ⟨W3, hW3⟩ : ∃ W, w3.alloc (.cells #[.int .i64 ((L : Int) + (1 + (cn : Int))), .int .i64 C] 24) = W := ⟨_, rfl⟩
      rw [hW3]
      have hx3 : W3.heap[w3.heap.size]? = some (.cells #[.int .i64 ((L : Int) + (1 + (cn : Int))), .int .i64 C] 24 (0, 0)) := by rw [← hW3, heap_al, if_pos rfl]
      have hsz3 : W3.heap.size = w3.heap.size + 1 := by rw [← hW3, World.size_alloc]
      have hal3 : ∀ k, k < w3.heap.size → W3.heap[k]? = w3.heap[k]? := fun k hk => by rw [← hW3, heap_al, if_neg (by omega)]
      have hbw3 : Below W2.heap.size W2 W3 := by rw [← hW3]; exact hb3.alloc hb3.size _
      have hb3s := hb3.size
      have HB3 := hid (HB2.out.trans (hbw3.mono HB2.out.size))
      have HX3 := hid hx3; have HW3 := hid hW3; have HAL3 := hid hal3; have HBW3 := hid hbw3
      clear hb3 hW3 hx3 hal3 hbw3
      refine (HCN.out W3).mono ?_
      rintro e w4 ⟨rfl, rfl⟩
      obtain ⟨c2, c2', f2, f2'⟩ := cell_lit2 ((HBW3.out.block _ (by omega)).trans HX2.out)
      obtain ⟨c3, c3', _, _⟩ := cell_lit2 HX3.out
      have hne : w3.heap.size ≠ w2.heap.size := by omega
      have g1 : (w4.setCell ⟨w2.heap.size, 0, none⟩ (.int .i64 ((L : Int) + (1 + (cn : Int))))).cell? ⟨w3.heap.size, 0, none⟩ = some (.int .i64 ((L : Int) + (1 + (cn : Int)))) := (World.cell?_setCell_other _ _ _ _ (by intro e; injection e; omega)).trans c3
      have g2 : (w4.setCell ⟨w2.heap.size, 0, none⟩ (.int .i64 ((L : Int) + (1 + (cn : Int))))).cell? ⟨w3.heap.size, 1, none⟩ = some (.int .i64 C) := (World.cell?_setCell_other _ _ _ _ (by intro e; injection e; omega)).trans c3'
      have g3 : (w4.setCell ⟨w2.heap.size, 0, none⟩ (.int .i64 ((L : Int) + (1 + (cn : Int))))).cell? ⟨w2.heap.size, 0, none⟩ = some (.int .i64 ((L : Int) + (1 + (cn : Int)))) := World.cell?_setCell_same _ _ _ c2
      have g4 : (w4.setCell ⟨w2.heap.size, 0, none⟩ (.int .i64 ((L : Int) + (1 + (cn : Int))))).cell? ⟨w2.heap.size, 1, none⟩ = some (.int .i64 C) := (World.cell?_setCell_other _ _ _ _ (by intro e; injection e; omega)).trans c2'
      go_wp2_with fail
      have HB5 := hid (HB3.out.setCell (p := ⟨w2.heap.size, 0, none⟩) (by have := HB0.out.size; show w.heap.size ≤ w2.heap.size; omega) (.int .i64 ((L : Int) + (1 + (cn : Int)))))
      refine (awake_any m _ ((HB5.out.cell h0).trans HM.out)).mono ?_
      rintro e w5 ⟨rfl, hb5⟩
      go_wp2
      go_ret
      exact ⟨rfl, HB5.out.trans (hb5.mono HB5.out.size)⟩
    | ok o2 =>
      rw [h2] at e2 e3
      have ho2 := hlo2 _ h2
      have hws2 := hb2' _ h2
      have HA := hid (lines_ok e1 m); have HBq := hid (lines_ok e2 m); have HC := hid (lines_ok e3 m)
      clear e1 e2 e3 h1 h2 hb1' hb2' hlo1 hlo2
      refine (HA.out W0 ((HB0.out.cell h0).trans HM.out)).mono ?_
      rintro e w1 ⟨hb1, p1, c1v, rfl, _, hs1⟩
      go_wp2_with fail
      obtain ⟨W1, hW1⟩ : ∃ W, w1.alloc (.cells #[.int .i64 0, .int .i64 0] 24) = W := ⟨_, rfl⟩
      rw [hW1]
      have hx1 : W1.heap[w1.heap.size]? = some (.cells #[.int .i64 0, .int .i64 0] 24 (0, 0)) := by rw [← hW1, heap_al, if_pos rfl]
      have hsz1 : W1.heap.size = w1.heap.size + 1 := by rw [← hW1, World.size_alloc]
      have hal1 : ∀ k, k < w1.heap.size → W1.heap[k]? = w1.heap[k]? := fun k hk => by rw [← hW1, heap_al, if_neg (by omega)]
      have hbw1 : Below W0.heap.size W0 W1 := by rw [← hW1]; exact hb1.alloc hb1.size _
      have hb1s := hb1.size
      have HB1 := hid (HB0.out.trans (hbw1.mono HB0.out.size))
      have HX1 := hid hx1; have HW1 := hid hW1; have HAL1 := hid hal1; have HBW1 := hid hbw1
      clear hb1 hW1 hx1 hal1 hbw1
      refine (HBq.out W1 ((HB1.out.cell h0).trans HM.out)).mono ?_
      rintro e w2 ⟨hb2, p2, c2v, rfl, _, hs2⟩
      go_wp2_with fail
      obtain ⟨W2, hW2⟩ : ∃ W, w2.alloc (.cells #[.int .i64 0, .int .i64 0] 24) = W := ⟨_, rfl⟩
      rw [hW2]
      have hx2 : W2.heap[w2.heap.size]? = some (.cells #[.int .i64 0, .int .i64 0] 24 (0, 0)) := by rw [← hW2, heap_al, if_pos rfl]
      have hsz2 : W2.heap.size = w2.heap.size + 1 := by rw [← hW2, World.size_alloc]
      have hal2 : ∀ k, k < w2.heap.size → W2.heap[k]? = w2.heap[k]? := fun k hk => by rw [← hW2, heap_al, if_neg (by omega)]
      have hbw2 : Below W1.heap.size W1 W2 := by rw [← hW2]; exact hb2.alloc hb2.size _
      have hb2s := hb2.size
      have HB2 := hid (HB1.out.trans (hbw2.mono HB1.out.size))
      have HX2 := hid hx2; have HW2 := hid hW2; have HAL2 := hid hal2; have HBW2 := hid hbw2
      clear hb2 hW2 hx2 hal2 hbw2
      try rw [hcat]
      refine (HC.out W2 ((HB2.out.cell h0).trans HM.out)).mono ?_
      rintro e w3 ⟨hb3, p3, c3v, rfl, hw3, _⟩
      have hlc : (o1 ++ dnL (1 + cn) o2).length = o1.length + o2.length := by simp [dnL]
      rw [hlc] at hw3 ⊢
      clear hlc
      go_wp2_with fail
      obtain ⟨W3, hW3⟩ : ∃ W, w3.alloc (.cells #[.int .i64 0, .int .i64 0] 24) = W := ⟨_, rfl⟩
      rw [hW3]
      have hx3 : W3.heap[w3.heap.size]? = some (.cells #[.int .i64 0, .int .i64 0] 24 (0, 0)) := by rw [← hW3, heap_al, if_pos rfl]
      have hsz3 : W3.heap.size = w3.heap.size + 1 := by rw [← hW3, World.size_alloc]
      have hal3 : ∀ k, k < w3.heap.size → W3.heap[k]? = w3.heap[k]? := fun k hk => by rw [← hW3, heap_al, if_neg (by omega)]
      have hbw3 : Below W2.heap.size W2 W3 := by rw [← hW3]; exact hb3.alloc hb3.size _
      have hb3s := hb3.size
      have HB3 := hid (HB2.out.trans (hbw3.mono HB2.out.size))
      have HX3 := hid hx3; have HW3 := hid hW3; have HAL3 := hid hal3; have HBW3 := hid hbw3
      clear hb3 hW3 hx3 hal3 hbw3
      refine (HCN.out W3).mono ?_
      rintro e w4 ⟨rfl, rfl⟩
      obtain ⟨xs, hxs⟩ := hs1.opn
      obtain ⟨bs, hbs⟩ := hs2.opn
      have HVA := hid (show WLV W0.heap.size 29 w4 (.slice p1 o1.length c1v) xs o1 from hxs.keep fun k _ hk => by
        have := hk.size
        exact (HBW3.out.block k (by omega)).trans ((HBW2.out.block k (by omega)).trans (HAL1.out k this)))
      have HVB := hid (show WLV W1.heap.size 29 w4 (.slice p2 o2.length c2v) bs o2 from hbs.keep fun k _ hk => by
        have := hk.size
        exact (HBW3.out.block k (by omega)).trans (HAL2.out k this))
      have HAP := hid (show ∀ k, W1.heap.size ≤ k → (Value.slice p1 o1.length c1v).ownBlock ≠ some k from fun k hk e => by have := (owns_soft hxs.1 k e).size; omega)
      have HLT := hid (show ∀ v ∈ bs, ∀ k, v.ownBlock = some k → k < w2.heap.size from fun v hv k hk => (hbs.2.2.2.1 v hv k hk).2.1.size)
      have HWC := hid (show WLL (fun k => W2.heap.size ≤ k ∧ k < w3.heap.size) w4 (.slice p3 (o1.length + o2.length) c3v) (o1 ++ dnL (1 + cn) o2) from hw3.keep fun k hk => ⟨⟨hk.1, hk.2.size⟩, HAL3.out k hk.2.size⟩)
      have hbl := hbs.2.1
      have HVA0 := hid hxs
      clear hxs hbs hs1 hs2 hw3 HVA
      go_wp2
      go_loopw [15, 16] (fun iv jv W => ∃ i : Nat, iv = .int .i64 i ∧ i ≤ bs.length ∧ WLV W1.heap.size 29 W (.slice p2 o2.length c2v) bs (part (1 + cn) i 0 o2) ∧ Fr (fun k => k < W1.heap.size ∨ w2.heap.size ≤ k) (fun k => k < W1.heap.size ∨ w2.heap.size ≤ k) w4 W) (fun iv _ _ => bs.length - (intOf iv).toNat)
      case atStart => exact ⟨0, rfl, Nat.zero_le _, by rw [part_zero]; exact HVB.out, Fr.refl _ _⟩
      case round =>
        obtain ⟨i, rfl, hi, hwv, hfr⟩ := hrel
        by_cases hil : i < bs.length
        · have hio : i < o2.length := by omega
          obtain ⟨g, cap, e1, hbg, hrow⟩ := hwv.row i hil
          injection e1 with e1 e2 e3
          subst e1
          subst e3
          clear e2
          obtain ⟨p, c, hvi, hq1, hq2, _⟩ := hwv.word i (by rw [part_len]; exact hio) hil
          rw [part_row _ _ _ _ hio] at hvi hq1
          have HVI := hid hvi
          have HWV := hid hwv; have HFR := hid hfr
          clear hwv hfr hrow hvi
          have HW := hid (show ∀ j (hj : j < o2[i].length), o2[i][j].2.1 ≤ 301 from fun j hj => hws2 _ (List.getElem_mem hio) _ (List.getElem_mem hj))
          obtain ⟨len, hlen⟩ : ∃ n, o2[i].length = n := ⟨_, rfl⟩
          have HLEN := hid hlen
          rw [hlen] at HVI hq1
          clear hlen
          go_wp2
          go_loopw [16] (fun jv W => ∃ j : Nat, jv = .int .i64 j ∧ j ≤ len ∧ WLV W1.heap.size 29 W (.slice (some ⟨g, 0, none⟩) o2.length c2v) bs (part (1 + cn) i j o2) ∧ Fr (fun k => k < W1.heap.size ∨ w2.heap.size ≤ k) (fun k => k < W1.heap.size ∨ w2.heap.size ≤ k) w4 W) (fun jv _ => len - (intOf jv).toNat)
          case atStart => exact ⟨0, rfl, Nat.zero_le _, HWV.out, HFR.out⟩
          case round =>
            obtain ⟨j, rfl, hj, hwy, hfy⟩ := hrel
            obtain ⟨g', cap', e1, _, hrow⟩ := hwy.row i hil
            injection e1 with e1 e2 e3
            cases e1
            clear e2 e3
            have d1 := hrow i hil
            rw [HVI.out] at d1
            by_cases hjl : j < len
            · have hjo : j < o2[i].length := by rw [HLEN.out]; exact hjl
              have hj63 : (j : Int) + 1 ≤ 9223372036854775807 := by have : len ≤ 9223372036854775807 := Nat.le_trans hq1 hq2; omega
              obtain ⟨b, off, rfl, hbb, hsoft, a2⟩ := hwy.lineno hio hil hjo HVI.out
              have q2 := hsoft.frozen (i := off + j * 3 + 1)
              have hlt2 := HLT.out _ (List.getElem_mem hil) b (by rw [HVI.out]; rfl)
              have hxl := HW.out j hjo
              have HD := hid (hwy.down hio hil hjo HVI.out ((o2[i][j].2.1 : Int) + (1 + (cn : Int))) (by omega))
              have HFY := hid (hfy.setC (p := ⟨b, off + j * 3 + 1, none⟩) (by show ¬ (b < W1.heap.size ∨ w2.heap.size ≤ b); omega) (.int .i64 ((o2[i][j].2.1 : Int) + (1 + (cn : Int)))))
              clear hwy hfy hrow hsoft
              generalize o2[i][j].2.1 = x at *
              go_wp2
              go_roundw
              case rel => exact ⟨j + 1, by go_num, by omega, HD.out, HFY.out⟩
              case measure => simp [intOf]; omega
            · obtain rfl : j = len := by omega
              have HWY := hid (show WLV W1.heap.size 29 wr (.slice (some ⟨g, 0, none⟩) o2.length c2v) bs (part (1 + cn) (i + 1) 0 o2) from by rw [← part_next _ _ _ hio, HLEN.out]; exact hwy)
              have HFY := hid hfy
              clear hwy hfy hrow
              go_wp2
              go_roundw
              case rel => exact ⟨i + 1, by go_num, by omega, HWY.out, HFY.out⟩
              case measure => simp [intOf]; omega
        · obtain rfl : i = bs.length := by omega
          rw [hbl, part_all] at hwv
          have hsz := hfr.size
          have hz0 := HB0.out.size
          have hva : WLV W0.heap.size 29 wr (.slice p1 o1.length c1v) xs o1 := HVA0.out.keep fun k _ hk => by
            have := hk.size
            exact (hfr.keep k (.inl (by omega))).2.trans ((HBW3.out.block k (by omega)).trans ((HBW2.out.block k (by omega)).trans (HAL1.out k this)))
          obtain ⟨v', w5, hrun, hg, ⟨p', c', rfl⟩, hwl⟩ := app_lines hva hwv (by omega) (by simp [dnL]; omega) HAP.out
          have hwc := HWC.out.keep (w' := w5) (R' := fun _ => True) fun k hk => ⟨trivial, (hg.block k (by omega) (fun e => HAP.out k (by omega) e.symm)).trans (hfr.keep k (.inr (by omega))).2⟩
          have hq := eqlines_any (o1 ++ dnL (1 + cn) o2) (o1 ++ dnL (1 + cn) o2) _ _ _ _ w5 hwc hwl
          rw [decide_eq_true rfl] at hq
          have hbr : Below w.heap.size w wr := HB3.out.trans (hfr.weaken (S := fun k => k < w.heap.size) (S' := fun _ => True) (fun k hk => .inl (by omega)) (fun _ _ _ => trivial)).below
          have HB5 := hid (hbr.grown hg (by omega) (fun k e => by have := (hva.1.lt k e).1; omega))
          have HQ := hid hq
          have hln : (dnL (1 + cn) o2).length = o2.length := by simp [dnL]
          rw [hln] at hrun HQ
          clear hva hwv hfr hwc hq hwl hg hbr
          go_wp2_with (at_builtin; refine wpList_appW (by simp [Region.wanted, yielded]) (.tmp 125) (.tmp 126) 22 rfl _ _ rfl rfl hrun ?_)
          with_reducible refine HQ.out.mono ?_
          rintro e w6 ⟨rfl, n, rfl⟩
          go_wp2_with fail
          have HB6 := hid (below_drewN' HB5.out n)
          refine (awake_any m _ ((HB6.out.cell h0).trans HM.out)).mono ?_
          rintro e w7 ⟨rfl, hb7⟩
          go_wp2
          go_ret
          exact ⟨rfl, HB6.out.trans (hb7.mono HB6.out.size)⟩
end Go.Proofs.Ytgldgkaigomceaa
