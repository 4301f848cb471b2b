/-
  The walk of TokenJoins: a text, a line feed and another text.
-/
import Derived.Test.YtgldgkaigomceaaDoorTkS
import Derived.Test.YtgldgkaigomceaaDoorTkPJ
import Derived.Test.YtgldgkaigomceaaDoorTkLn
import Derived.BigFrame
import Derived.Laws.OwnMore
namespace Go.Proofs.YtgldgkaigomceaaDoor
set_option linter.unusedSimpArgs false
set_option linter.unusedVariables false
open Go.RowKit Go.Shelf
attribute [local go_sem] Oper.semAt_some

theorem linesR_tok (l : Bs) (h : l.length ≤ 65536) : linesR l = match tok l with
    | .error (L, C) => .error (L, C, 4)
    | .ok o => .ok o := by
  unfold linesR
  rw [if_neg (by omega)]
  cases tok l <;> rfl
theorem lines_err {l : Bs} {L C : Nat} {c : Int} (h : linesR l = .error (L, C, c)) (m : Int) (w : World) (hm : w.cell? ⟨1, 0, none⟩ = some (.int .i64 m)) : Calls Tryd.prog 8 #[.string ⟨l.toArray⟩] w fun e w' => Below w.heap.size w w' ∧ e = .returned (.tuple #[.slice none 0 0, .agg #[.int .i64 (L : Int), .int .i64 (C : Int)], .int .i64 c]) := by
  have := lines_any l m w hm; unfold LinesPost at this; rw [h] at this; exact this
theorem lines_ok {l : Bs} {out : List (List Wd)} (h : linesR l = .ok out) (m : Int) (w : World) (hm : w.cell? ⟨1, 0, none⟩ = some (.int .i64 m)) : Calls Tryd.prog 8 #[.string ⟨l.toArray⟩] w fun e w' => Below w.heap.size w w' ∧ ∃ p c, e = .returned (.tuple #[.slice p out.length c, .agg #[.int .i64 0, .int .i64 0], .int .i64 0]) ∧ WLL (fun k => w.heap.size ≤ k ∧ Soft w' k) w' (.slice p out.length c) out ∧ WLS w.heap.size 34 w' (.slice p out.length c) out := by
  have := lines_any l m w hm; unfold LinesPost at this; rw [h] at this
  refine this.mono ?_
  rintro e w' ⟨hb, v, he, h1, h2⟩
  obtain ⟨p, c, rfl⟩ := h1.slc
  exact ⟨hb, p, c, he, h1, h2⟩
theorem lines_gen (l : Bs) (m : Int) (w : World) (hm : w.cell? ⟨1, 0, none⟩ = some (.int .i64 m)) : Calls Tryd.prog 8 #[.string ⟨l.toArray⟩] w fun e w' => Below w.heap.size w w' ∧ ∃ p n c L C x, e = .returned (.tuple #[.slice p n c, .agg #[.int .i64 L, .int .i64 C], .int .i64 x]) := by
  cases h : linesR l with
  | error q => obtain ⟨L, C, c⟩ := q; exact (lines_err h m w hm).mono fun e w' h => ⟨h.1, _, _, _, _, _, _, h.2⟩
  | ok out => exact (lines_ok h m w hm).mono fun e w' ⟨h1, p, c, h2, _⟩ => ⟨h1, _, _, _, _, _, _, h2⟩

theorem wpList_appW {P : Program} {ops : Array Oper} {rest : List Oper} {o : Oper} {a : Act} {w : World} {Q : Exit → Act → World → Prop} (hw : Region.wanted o (yielded ops a.tmps) = true) (s x : Operand) (t : TypeId)
    (ho : o.op = .call { callee := .builtin .append, args := #[s, x], argTypes := #[t, t] }) (sv xv : Value) (hs : a.eval s = sv) (hx : a.eval x = xv) {v' : Value} {w' : World}
    (hrun : (Builtin.append_ #[t, t] o.type #[sv, xv]).run P w = .ok v' w') (h : wpList P ops Q rest (a.put o.dst v') w') : wpList P ops Q (o :: rest) a w := by
  refine BigFrame.wpList_want hw fun K hK => ?_
  unfold Oper.wp execOp
  simp only [ho, resolve, invoke, builtin, Sem.run_bind, Sem.run_pure, Result.andThen_ok, List.map_toArray, List.map_cons, List.map_nil, hs, hx, hrun]
  exact hK _ _ h

/-- Lines are appended to lines. -/
theorem app_lines {A B : Nat} {w : World} {va vb : Value} {xs bs : List Value} {oa ob : List (List Wd)} (ha : WLV A 34 w va xs oa) (hb : WLV B 34 w vb bs ob) (hA : A ≤ w.heap.size) (hl : oa.length + ob.length ≤ 1000000)
    (hap : ∀ k, B ≤ k → va.ownBlock ≠ some k) :
    ∃ v' w', (Builtin.append_ #[27, 27] 27 #[va, vb]).run Tryd.prog w = .ok v' w' ∧ w.grownBy w' va.ownBlock ∧ (∃ p c, v' = .slice p (oa.length + ob.length) c) ∧ WLL (fun k => k < w'.heap.size) w' v' (oa ++ ob) := by
  have key : ∀ v' w', w'.ownsRow A 34 1 v' (oa.length + ob.length) (xs ++ bs) → w.grownBy w' va.ownBlock → WLL (fun k => k < w'.heap.size) w' v' (oa ++ ob) := by
    intro v' w' ho hg
    refine ⟨xs ++ bs, Sl.of_owns ho (by omega) fun k hk => (ho.lt k hk).2, by rw [List.length_append, List.length_append, ha.2.1, hb.2.1], fun i hi hi' => ?_⟩
    by_cases h : i < oa.length
    · have h' : i < xs.length := by have := ha.2.1; omega
      rw [List.getElem_append_left h', List.getElem_append_left h]
      refine (ha.2.2.1 i h h').keep fun k hk => ?_
      obtain ⟨q1, q2, q3⟩ := ha.2.2.2.1 _ (List.getElem_mem h') k hk
      exact ⟨Nat.lt_of_lt_of_le q2.size hg.size, hg.block k q2.size fun e => q3 e.symm⟩
    · have h1 := ha.2.1
      have h2 := hb.2.1
      rw [List.length_append] at hi hi'
      have e1 : (xs ++ bs)[i]'(by rw [List.length_append]; omega) = bs[i - xs.length]'(by omega) := List.getElem_append_right (by omega)
      have e2 : (oa ++ ob)[i]'(by rw [List.length_append]; omega) = ob[i - oa.length]'(by omega) := List.getElem_append_right (by omega)
      rw [e1, e2]
      have e3 : i - xs.length = i - oa.length := by omega
      have h3 : i - oa.length < bs.length := by omega
      have e4 : bs[i - xs.length]'(by omega) = bs[i - oa.length]'h3 := by simp only [e3]
      rw [e4]
      refine (hb.2.2.1 (i - oa.length) (by omega) h3).keep fun k hk => ?_
      obtain ⟨q1, q2, q3⟩ := hb.2.2.2.1 _ (List.getElem_mem h3) k hk
      exact ⟨Nat.lt_of_lt_of_le q2.size hg.size, hg.block k q2.size fun e => hap k q1 e.symm⟩
  obtain ⟨i, hi, hz, hs1, hby⟩ := info_parts info_Words
  rcases hb.1.2 with ⟨rfl, h0⟩ | ⟨g, cap, cur, rfl, hbg, hg, hnc, hcm, hcs, ht⟩
  · have hbs : bs = [] := List.eq_nil_of_length_eq_zero (by have := hb.2.1; omega)
    have hob : ob = [] := List.eq_nil_of_length_eq_zero h0
    subst hbs
    subst hob
    have hg : w.grownBy w va.ownBlock := ⟨rfl, rfl, rfl, Nat.le_refl _, fun _ _ _ => rfl⟩
    obtain ⟨p, c, e⟩ := own_sliceG ha.1
    exact ⟨va, w, run_append_owned_none (P := Tryd.prog) (w := w) A 27 27 34 i 1 Tryd.underlying27 hi va oa.length xs ha.1, hg, ⟨p, c, e⟩, key va w (by simpa using ha.1) hg⟩
  · have hr : RowR (fun _ => True) w (some ⟨g, 0, none⟩) bs := by
      rcases Nat.eq_zero_or_pos bs.length with h0 | h0
      · exact .inl (List.eq_nil_of_length_eq_zero h0)
      · obtain ⟨g', cap', e, hbg', hrow⟩ := hb.row 0 h0
        injection e with e1 e2 e3
        injection e1 with e1
        injection e1 with e1
        subst e1
        exact .inr ⟨g, 0, rfl, trivial, fun j hj => by rw [Nat.zero_add]; exact hrow j hj⟩
    obtain ⟨v', w', hrun, hown, hgr, _⟩ := run_appG (P := Tryd.prog) w A 27 27 34 (.slice none 0 0) 1 24 Tryd.underlying27 info_Words rfl (by decide) va oa.length xs ha.1 ⟨g, 0, none⟩ ob.length cap bs (by rw [hb.2.1, Nat.mul_one]) hr
      (fun u hu => by
        obtain ⟨k, hk, rfl⟩ := List.getElem_of_mem hu
        obtain ⟨p, c, e, _⟩ := hb.2.2.1 k (by have := hb.2.1; omega) hk
        rw [e]; rfl) (by omega) (by unfold maxLen; omega) hA
    exact ⟨v', w', hrun, hgr, own_sliceG hown, key v' w' hown hgr⟩

theorem dn_cells (d : Nat) (x : Wd) : wcells (dnW d x) = (wcells x).set 1 (.int .i64 ((x.2.1 + d : Nat) : Int)) := rfl
theorem catNL (a b : Bs) : (⟨a.toArray⟩ : ByteArray) ++ ⟨#[10]⟩ ++ ⟨b.toArray⟩ = ⟨(a ++ 10 :: b).toArray⟩ := by
  rw [ByteArray.mk_append_mk, ByteArray.mk_append_mk]
  simp

theorem WLV.down {B eo : Nat} {w : World} {v : Value} {bs : List Value} {o : List (List Wd)} {d i j : Nat} (h : WLV B eo w v bs (part d i j o)) (hi : i < o.length) (hi' : i < bs.length) (hj : j < o[i].length) {b off len c : Nat}
    (hv : bs[i] = .slice (some ⟨b, off, none⟩) len c) (z : Int) (hz : z = (o[i][j].2.1 : Int) + (d : Int)) : WLV B eo (w.setCell ⟨b, off + j * 3 + 1, none⟩ (.int .i64 z)) v bs (part d i (j + 1) o) := by
  have hr := part_row d i j o hi
  have := h.set i (by rw [part_len]; exact hi) hi' j (by rw [hr]; exact hj) 1 (by omega) hv (.int .i64 z) (dnW d o[i][j]) (by rw [part_word d i j o hi hj, dn_cells, hz]; rfl)
  rw [part_set d i j o hi hj] at this
  exact this
theorem WLV.lineno {B eo : Nat} {w : World} {v : Value} {bs : List Value} {o : List (List Wd)} {d i j : Nat} (h : WLV B eo w v bs (part d i j o)) (hi : i < o.length) (hi' : i < bs.length) (hj : j < o[i].length) {p : Option Addr} {len c : Nat}
    (hv : bs[i] = .slice p len c) : ∃ b off, p = some ⟨b, off, none⟩ ∧ B ≤ b ∧ Soft w b ∧ w.cell? ⟨b, off + j * 3 + 1, none⟩ = some (.int .i64 (o[i][j].2.1 : Int)) := by
  have hr := part_row d i j o hi
  obtain ⟨p', c', e, _, _, hc⟩ := h.word i (by rw [part_len]; exact hi) hi'
  rw [hv] at e
  injection e with e1 e2 e3
  subst e1
  obtain ⟨b, off, rfl, q1, q2, q3⟩ := hc j (by rw [hr]; exact hj)
  refine ⟨b, off, rfl, q1, q2, ?_⟩
  have := (q3 j (by rw [hr]; exact hj)).2.1
  rw [part_word d i j o hi hj] at this
  exact this
theorem Fr.setC {R : Nat → Prop} {a b : World} (h : Fr R R a b) {p : Addr} (hp : ¬ R p.block) (u : Value) : Fr R R a (b.setCell p u) :=
  ⟨h.os, h.tape, h.output, by simpa using h.size, fun k hk => ⟨(h.keep k hk).1, (Below.heap_setCell _ _ _ _ (fun e => hp (by rw [← e]; exact hk))).trans (h.keep k hk).2⟩⟩

end Go.Proofs.YtgldgkaigomceaaDoor
