/-
  Package dimacs: the iterator over the lines of a text.
-/
import Derived.Test.YtfllhhgnflpagaaDoorDmH
import Derived.Maps.OwnIn
import Derived.CallsIn
import Derived.RangeFuncNested
import Derived.RangeFuncBound
import Derived.RangeFuncCalls
import Derived.RangeFuncLeaves
import Derived.RangeFuncWrites
import Derived.Shelf.RegionOpen
import Derived.OwnWalkIn
import Derived.TacticsInMore
import Derived.LoopNIn
import Derived.LoopIn
namespace Go.Proofs.YtfllhhgnflpagaaDoor
set_option linter.unusedSimpArgs false
set_option linter.unusedVariables false
open Go.RowKit Go.Shelf
attribute [local go_sem] Oper.semAt_some

theorem index_nl : ∀ t : Bs, (Lib.index t [10] = -1 ∧ cutNL t = (t, [])) ∨ (∃ i : Nat, Lib.index t [10] = i ∧ cutNL t = (t.take i, t.drop (i + 1)))
  | [] => .inl ⟨rfl, rfl⟩
  | c :: r => by
    unfold Lib.index cutNL
    by_cases h : c = 10
    · subst h
      exact .inr ⟨0, by simp [List.isPrefixOf], by simp⟩
    · have h0 : ([10] : Bs).isPrefixOf (c :: r) = false := by
        simp [List.isPrefixOf]
        exact fun e => h e.symm
      rw [if_neg h, h0]
      rcases index_nl r with ⟨h1, h2⟩ | ⟨i, h1, h2⟩
      · exact .inl ⟨by rw [h1]; rfl, by rw [h2]⟩
      · refine .inr ⟨i + 1, ?_, ?_⟩
        · rw [h1]
          have : ((i : Int) == -1) = false := by rw [beq_eq_false_iff_ne]; omega
          simp [this]
        · rw [h2]; simp
theorem cut_nl (t : Bs) : (Lib.cut t [10]).1 = (cutNL t).1 ∧ (Lib.cut t [10]).2.1 = (cutNL t).2 := by
  unfold Lib.cut
  rcases index_nl t with ⟨h1, h2⟩ | ⟨i, h1, h2⟩
  · rw [h1, h2]; exact ⟨rfl, rfl⟩
  · rw [h1, h2, if_pos (by omega)]; simp
theorem cut_any (t : Bs) (m : Int) (w : World) (hs : t.length ≤ 65536) (hm : w.cell? ⟨3, 0, none⟩ = some (.int .i64 m)) :
    Calls Tryd.prog 49 #[.string ⟨t.toArray⟩, .string ⟨#[10]⟩] w fun e w' => ∃ more : Bool, e = .returned (.tuple #[.string ⟨(cutNL t).1.toArray⟩, .string ⟨(cutNL t).2.toArray⟩, .bool more]) ∧ ∃ n, w.drewN n = w' := by
  refine (Tryd.strings_Cut ⟨t.toArray⟩ ⟨#[10]⟩ m w (by show t.toArray.size < _; simp; omega) hm).mono ?_
  rintro e w' ⟨rfl, n, rfl⟩
  refine ⟨(Lib.cut t.toArray.toList [10]).2.2, ?_, n, rfl⟩
  show Ending.returned (.tuple #[.string ⟨(Lib.cut t.toArray.toList [10]).1.toArray⟩, .string ⟨(Lib.cut t.toArray.toList [10]).2.1.toArray⟩, .bool (Lib.cut t.toArray.toList [10]).2.2]) = _
  rw [show t.toArray.toList = t from rfl, (cut_nl t).1, (cut_nl t).2]
theorem cutNL_le (t : Bs) : (cutNL t).1.length ≤ t.length := by
  induction t with
  | nil => simp [cutNL]
  | cons c r ih => unfold cutNL; split <;> simp; exact ih

set_option maxRecDepth 100000 in
set_option maxHeartbeats 400000 in
theorem bl_any (x : Nat) (w : World) : Calls Tryd.prog 51 #[.int .i32 (x : Int)] w fun e w' => e = .returned (.bool (blP x)) ∧ w = w' := by
  have h1 : ((x : Int) == 32) = (x == 32) := by rw [Bool.eq_iff_iff, beq_iff_eq, beq_iff_eq]; omega
  have h2 : ((x : Int) == 9) = (x == 9) := by rw [Bool.eq_iff_iff, beq_iff_eq, beq_iff_eq]; omega
  unfold blP
  rw [← h1, ← h2]
  clear h1 h2
  generalize (x : Int) = y
  cases hb : (y == 32) <;> cases hc : (y == 9)
  all_goals
    have HB := hid hb; have HC := hid hc
    go_enter Tryd.func51, Tryd.ntmps51
    go_wp2
    go_ret
    exact ⟨rfl, rfl⟩
theorem fldF_len : ∀ (s cur : Bs) (acc : List Bs), (fldF s cur acc).length ≤ s.length + acc.length + 1
  | [], cur, acc => by unfold fldF flushB; split <;> simp
  | b :: t, cur, acc => by
    unfold fldF
    split
    · have := fldF_len t [] (flushB cur acc)
      have h2 : (flushB cur acc).length ≤ acc.length + 1 := by unfold flushB; split <;> simp
      simp only [List.length_cons]; omega
    · have := fldF_len t (cur ++ [b]) acc
      simp only [List.length_cons]; omega
theorem fields_len (t : Bs) : (fields t).length ≤ t.length + 1 := by have := fldF_len t [] []; simpa [fields] using this
theorem fldF_mem : ∀ (s cur : Bs) (acc : List Bs) (k : Nat), (∀ x ∈ acc, x.length ≤ k) → cur.length + s.length ≤ k → ∀ x ∈ fldF s cur acc, x.length ≤ k
  | [], cur, acc, k, ha, hc => by
    unfold fldF flushB
    split
    · exact ha
    · intro x hx
      rw [List.mem_append] at hx
      rcases hx with hx | hx
      · exact ha x hx
      · simp at hx; subst hx; simpa using hc
  | b :: t, cur, acc, k, ha, hc => by
    simp only [List.length_cons] at hc
    unfold fldF
    split
    · refine fldF_mem t [] _ k ?_ (by simp; omega)
      intro x hx
      unfold flushB at hx
      split at hx
      · exact ha x hx
      · rw [List.mem_append] at hx
        rcases hx with hx | hx
        · exact ha x hx
        · simp at hx; subst hx; omega
    · exact fldF_mem t (cur ++ [b]) acc k ha (by simp; omega)
theorem fields_mem (t x : Bs) (h : x ∈ fields t) : x.length ≤ t.length := fldF_mem t [] [] t.length (by simp) (by simp) x h
theorem eg_bl : ∀ args (w : World), (callFunc 51 args).run Tryd.prog w = .ok (.enter 51 args) w := enters_of Tryd.func51 (by kernel_rfl) rfl
/-- strings.FieldsFunc with lines' own test. -/
theorem fields_any (t : Bs) (w : World) (hs : t.length ≤ 65536) :
    Calls Tryd.prog 50 #[.string ⟨t.toArray⟩, .func (.func 51) #[] #[]] w fun e w' => ∃ v, e = .returned v ∧ Strs (fun k => w.heap.size ≤ k ∧ k < w'.heap.size) w' v (fields t) ∧ Below w.heap.size w w' := by
  refine (Tryd.strings_FieldsFunc_runes 51 #[] eg_bl blP ⟨t.toArray⟩ w (by show t.toArray.size ≤ _; simp; omega) (fun W x _ _ => (bl_any x W).mono fun e w' h => ⟨h.1, 0, h.2.symm⟩)).mono ?_
  rintro e w' ⟨A, rfl, hA, ho, hb⟩
  have hg : Lib.goFieldsP blP ⟨t.toArray⟩ = (fields t).map (fun l => ⟨l.toArray⟩) := goFields_bl ⟨t.toArray⟩
  rw [hg] at ho ⊢
  rw [List.length_map] at ho ⊢
  rw [List.map_map] at ho
  refine ⟨_, rfl, ?_, hb⟩
  have hAl : A < w'.heap.size := by
    rcases ho.2 with ⟨h, _⟩ | ⟨g, cap, cur, h, _, hg2, _⟩
    · cases h
    · cases h
      exact (Array.getElem?_eq_some_iff.1 hg2).1
  refine Sl.of_owns ho (by have := fields_len t; omega) ?_
  intro k hk
  cases hk
  exact ⟨hA, hAl⟩

set_option maxRecDepth 100000 in
set_option maxHeartbeats 1000000 in
theorem lines1_in (n0 l bs : Nat) (hn : 1 ≤ n0) (m : Int) (J : Nat → Bs → World → Prop) (Jx : World → Prop)
    (hJc : ∀ n t W, J n t W → W.cell? ⟨bs, 0, none⟩ = some (.string ⟨t.toArray⟩) ∧ W.frozen? ⟨bs, 0, none⟩ = false ∧ W.cell? ⟨3, 0, none⟩ = some (.int .i64 m))
    (hY : ∀ n t W k W2 v, J n t W → t ≠ [] → 1 ≤ n → n + t.length ≤ 65537 → Below W.heap.size ((W.drewN k).setCell ⟨bs, 0, none⟩ (.string ⟨(cutNL t).2.toArray⟩)) W2 → Strs (fun i => W.heap.size ≤ i ∧ i < W2.heap.size) W2 v (fields (cutNL t).1) →
      YieldAt Fence.wide (n0 - 1) Tryd.prog l #[.int .i64 n, v] W2 fun e W' => (e = .returned (.bool true) ∧ J (n + 1) (cutNL t).2 W') ∨ (e = .returned (.bool false) ∧ Jx W'))
    (s : Bs) (hs : s.length ≤ 65536) (W : World) (h0 : J 1 s W) :
    CallsIn Fence.wide n0 Tryd.prog 48 #[.func (.yield l) #[] #[], .pointer (some ⟨bs, 0, none⟩)] W fun e W' => (∃ v, e = .returned v) ∧ ((∃ n, J n [] W') ∨ Jx W') := by
  refine callsIn_of_wp Tryd.func48 rfl trivial ?_ rfl
  simp only [Tryd.ntmps48, List.size_toArray, List.length_cons, List.length_nil, Nat.reduceAdd, Nat.reduceSub, Array.replicate_succ, Array.replicate_zero, List.push_toArray, List.append_toArray, List.nil_append, List.cons_append]
  gi_wp2
  gi_loopw [3] (fun i wr => ∃ (n : Nat) (t : Bs), i = .int .i64 n ∧ 1 ≤ n ∧ n + t.length ≤ 65537 ∧ J n t wr) (fun i wr => 65537 - (intOf i).toNat)
  case atStart => exact ⟨1, s, rfl, Nat.le_refl _, by omega, h0⟩
  case round =>
    obtain ⟨n, t, rfl, hn1, hnt, hJs⟩ := hrel
    obtain ⟨c1, c2, c3⟩ := hJc n t wr hJs
    by_cases ht : t = []
    · subst ht
      have HJ := hid hJs
      have c4 : wr.cell? ⟨bs, 0, none⟩ = some (.string ⟨#[]⟩) := c1
      clear hY hJc hJs c1
      gi_wp2
      refine bodyPost_end (results_none rfl _ _ _) rfl ?_
      exact ⟨⟨_, rfl⟩, .inl ⟨n, HJ.out⟩⟩
    · have ht1 : (t == []) = false := by simp [ht]
      have hcut := cut_any t m wr (by omega) c3
      have hlen := cutNL_len t ht
      have hle := cutNL_le t
      have hy := fun k W2 v => hY n t wr k W2 v hJs ht hn1 hnt
      obtain ⟨line, rest, hc⟩ : ∃ line rest, cutNL t = (line, rest) := ⟨_, _, rfl⟩
      rw [hc] at hcut hlen hle
      simp only [hc] at hy
      have hf := fun W1 => fields_any line W1 (Nat.le_trans hle (by omega))
      have HCUT := hid hcut
      have HLEN := hid (show rest.length < t.length from hlen)
      have HY := hid hy
      have HF := hid hf
      have HN := hid (And.intro hn1 hnt)
      have hnb : n ≤ 65537 := by omega
      have HLT := hid (cell_size c1)
      clear hcut hlen hle hc hy hY hJc hJs hf hnt c3
      gi_wp2_with fail
      refine ⟨trivial, ?_⟩
      refine (callsIn_wide.2 HCUT.out).mono ?_
      rintro e w1 ⟨more, rfl, nd, rfl⟩
      clear HCUT
      gi_wp2_with fail
      refine ⟨trivial, ?_⟩
      refine (callsIn_wide.2 (HF.out _)).mono ?_
      rintro e w2 ⟨v2, rfl, hs2, hb2⟩
      have hsz : ((wr.drewN nd).setCell ⟨bs, 0, none⟩ (.string ⟨rest.toArray⟩)).heap.size = wr.heap.size := by
        first
          | (simp [World.setCell]; rfl)
          | simp [World.setCell]
      rw [hsz] at hs2 hb2
      obtain ⟨fn, tmps, assign, body, hy, hR⟩ := HY.out nd w2 v2 hb2 hs2
      have HR := hid hR
      clear hR HY hsz hs2 hb2 HF
      gi_wp2
      refine HR.out.mono ?_
      rintro e W3 (⟨rfl, hk3⟩ | ⟨rfl, hx3⟩)
      · have HJ := hid hk3
        clear hk3
        gi_wp2
        go_roundw
        case rel => exact ⟨n + 1, rest, by go_num, by omega, by have := HLEN.out; have := HN.out.2; omega, HJ.out⟩
        case measure => (have := HN.out.2; have := HLEN.out; simp [intOf]; omega)
      · have HX := hid hx3
        clear hx3
        gi_wp2
        refine bodyPost_ret (results_none rfl _ _ _) rfl ?_
        exact ⟨⟨_, rfl⟩, .inr HX.out⟩

end Go.Proofs.YtfllhhgnflpagaaDoor
