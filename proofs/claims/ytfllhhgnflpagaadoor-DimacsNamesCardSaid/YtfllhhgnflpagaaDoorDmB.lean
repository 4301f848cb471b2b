/-
  Package dimacs: Parse.
-/
import Derived.Test.YtfllhhgnflpagaaDoorDmA
namespace Go.Proofs.YtfllhhgnflpagaaDoor
set_option linter.unusedSimpArgs false
set_option linter.unusedVariables false
open Go.RowKit Go.Shelf
attribute [local go_sem] Oper.semAt_some

def pp (b : Nat) : Value := .pointer (some ⟨b, 0, none⟩)
set_option maxRecDepth 100000 in
set_option maxHeartbeats 1000000 in
theorem pd_ok {n B : Nat} {v0 v1 : Value} {u : FrameMode} {W : World} (h0 : W.heap[B]? = some (.cells #[v0, v1] 24 (0, 0))) (h2 : W.heap[B + 1 + 1]? = some (.cells #[.int .i64 0] 27 (0, 0))) :
    CallsDIn Fence.wide n Tryd.prog 25 #[.pointer (some ⟨B + 1 + 1, 0, none⟩), .pointer (some ⟨B, 0, none⟩)] u W fun e u' w' => u' = u ∧ ((∃ v, e = .returned v) ∧ W = w') := by
  obtain ⟨c0, c1, f0, f1⟩ := cell_lit2 h0
  obtain ⟨c3, f3⟩ := cell_lit1 h2
  clear h0 h2
  refine callsDIn_of_wp Tryd.func25 rfl trivial ?_ rfl
  simp only [Tryd.ntmps25, List.size_toArray, List.length_cons, List.length_nil, Nat.reduceAdd, Nat.reduceSub, Array.replicate_succ, Array.replicate_zero, List.push_toArray, List.append_toArray, List.nil_append, List.cons_append]
  gi_wp2
  refine bodyPost_end (results_none rfl _ _ _) rfl ?_
  exact ⟨⟨_, rfl⟩, rfl⟩
set_option maxRecDepth 100000 in
set_option maxHeartbeats 1000000 in
theorem pd_err {n B : Nat} {er : Int} {v0 v1 : Value} {u : FrameMode} {W : World} (h0 : W.heap[B]? = some (.cells #[v0, v1] 24 (0, 0))) (h2 : W.heap[B + 1 + 1]? = some (.cells #[.int .i64 er] 27 (0, 0))) (he : er ≠ 0) :
    CallsDIn Fence.wide n Tryd.prog 25 #[.pointer (some ⟨B + 1 + 1, 0, none⟩), .pointer (some ⟨B, 0, none⟩)] u W fun e u' w' => u' = u ∧ ((∃ v, e = .returned v) ∧ (W.setCell ⟨B, 0, none⟩ (.int .i64 0)).setCell ⟨B, 1, none⟩ (.slice none 0 0) = w') := by
  obtain ⟨c0, c1, f0, f1⟩ := cell_lit2 h0
  obtain ⟨c3, f3⟩ := cell_lit1 h2
  clear h0 h2
  have hne : (er != 0) = true := by simp [he]
  refine callsDIn_of_wp Tryd.func25 rfl trivial ?_ rfl
  simp only [Tryd.ntmps25, List.size_toArray, List.length_cons, List.length_nil, Nat.reduceAdd, Nat.reduceSub, Array.replicate_succ, Array.replicate_zero, List.push_toArray, List.append_toArray, List.nil_append, List.cons_append]
  gi_wp2
  exact ⟨rfl, _, results_none rfl _ _ _, ⟨_, rfl⟩, rfl⟩

theorem eg_pd : ∀ args (w : World), (callFunc 25 args).run Tryd.prog w = .ok (.enter 25 args) w := enters_of Tryd.func25 (by kernel_rfl) rfl
/-- Parse's results, read from its cells. -/
def ResIs (B : Nat) (tmps : Array Value) : Prop := ∀ (W' : World) (a b c d : Value), W'.cell? ⟨B, 0, none⟩ = some a → W'.cell? ⟨B, 1, none⟩ = some b → W'.cell? ⟨B + 1, 0, none⟩ = some c → W'.cell? ⟨B + 1 + 1, 0, none⟩ = some d →
  (results Tryd.f15 tmps).run Tryd.prog W' = .ok (.tuple #[.agg #[a, b], c, d]) W'
theorem leave_err {B : Nat} {er : Int} {v0 v1 v2 : Value} {tmps : Array Value} {W : World} {R : Ending → World → Prop} (h0 : W.heap[B]? = some (.cells #[v0, v1] 24 (0, 0))) (h1 : W.heap[B + 1]? = some (.cells #[v2] 3 (0, 0)))
    (h2 : W.heap[B + 1 + 1]? = some (.cells #[.int .i64 er] 27 (0, 0))) (he : er ≠ 0) (hres : ResIs B tmps)
    (hR : R (.returned (.tuple #[.agg #[.int .i64 0, .slice none 0 0], v2, .int .i64 er])) ((W.setCell ⟨B, 0, none⟩ (.int .i64 0)).setCell ⟨B, 1, none⟩ (.slice none 0 0))) :
    LeavesInM Fence.wide 9 Tryd.prog Tryd.f15 tmps R [{ target := .fn (.func 25) #[.pointer (some ⟨B + 1 + 1, 0, none⟩), .pointer (some ⟨B, 0, none⟩)], args := #[] }] .returning W := by
  refine ⟨by simp, .inr ⟨(fun _ => by omega), _, _, 25, #[.pointer (some ⟨B + 1 + 1, 0, none⟩), .pointer (some ⟨B, 0, none⟩)], rfl, by simp [invoke, go_sem, eg_pd], fun _ _ => trivial, ?_⟩⟩
  refine (pd_err h0 h2 he).mono ?_
  rintro e u' w' ⟨rfl, ⟨v, rfl⟩, rfl⟩
  have k0 := heap_set (i := 1) (heap_set (i := 0) h0 (.int .i64 0)) (.slice none 0 0)
  have k1 := (heap_oth (W := W.setCell ⟨B, 0, none⟩ (.int .i64 0)) (b := B) (i := 1) (k := B + 1) (by omega) (.slice none 0 0)).trans ((heap_oth (b := B) (i := 0) (by omega) (.int .i64 0)).trans h1)
  have k2 := (heap_oth (W := W.setCell ⟨B, 0, none⟩ (.int .i64 0)) (b := B) (i := 1) (k := B + 1 + 1) (by omega) (.slice none 0 0)).trans ((heap_oth (b := B) (i := 0) (by omega) (.int .i64 0)).trans h2)
  exact ⟨_, hres _ _ _ _ _ (cell_lit2 k0).1 (cell_lit2 k0).2.1 (cell_lit1 k1).1 (cell_lit1 k2).1, hR⟩
theorem leave_ok {B : Nat} {v0 v1 v2 : Value} {tmps : Array Value} {W : World} {R : Ending → World → Prop} (h0 : W.heap[B]? = some (.cells #[v0, v1] 24 (0, 0))) (h1 : W.heap[B + 1]? = some (.cells #[v2] 3 (0, 0)))
    (h2 : W.heap[B + 1 + 1]? = some (.cells #[.int .i64 0] 27 (0, 0))) (hres : ResIs B tmps)
    (hR : R (.returned (.tuple #[.agg #[v0, v1], v2, .int .i64 0])) W) :
    LeavesInM Fence.wide 9 Tryd.prog Tryd.f15 tmps R [{ target := .fn (.func 25) #[.pointer (some ⟨B + 1 + 1, 0, none⟩), .pointer (some ⟨B, 0, none⟩)], args := #[] }] .returning W := by
  refine ⟨by simp, .inr ⟨(fun _ => by omega), _, _, 25, #[.pointer (some ⟨B + 1 + 1, 0, none⟩), .pointer (some ⟨B, 0, none⟩)], rfl, by simp [invoke, go_sem, eg_pd], fun _ _ => trivial, ?_⟩⟩
  refine (pd_ok h0 h2).mono ?_
  rintro e u' w' ⟨rfl, ⟨v, rfl⟩, rfl⟩
  exact ⟨_, hres _ _ _ _ _ (cell_lit2 h0).1 (cell_lit2 h0).2.1 (cell_lit1 h1).1 (cell_lit1 h2).1, hR⟩

/-- What Parse returns. -/
def ParsePost (s : Bs) (w : World) (e : Ending) (w' : World) : Prop :=
  ∃ cv, e = .returned (.tuple #[.agg #[.int .i64 (parseM s).1.1, cv], .int .i64 (parseM s).2.1, .int .i64 (parseM s).2.2]) ∧ LL (fun k => w.heap.size ≤ k ∧ k < w'.heap.size) w' cv (parseM s).1.2 ∧ Below w.heap.size w w'

set_option maxRecDepth 100000 in
set_option maxHeartbeats 1000000 in
theorem parse_long (s : Bs) (w : World) (h : 65536 < s.length) : Calls Tryd.prog 15 #[.string ⟨s.toArray⟩] w (ParsePost s w) := by
  have hP : parseM s = ((0, []), 0, 5) := by unfold parseM; rw [if_pos h]
  have HP := hid hP
  have hd : decide (65536 < (s.length : Int)) = true := by simp; omega
  clear hP h
  refine (callsIn_wide (n := 9)).1 ?_
  refine callsIn_of_wp_marks Tryd.func15 rfl trivial ?_ rfl
  simp only [Tryd.ntmps15, List.size_toArray, List.length_cons, List.length_nil, Nat.reduceAdd, Nat.reduceSub, Array.replicate_succ, Array.replicate_zero, List.push_toArray, List.append_toArray, List.nil_append, List.cons_append]
  gi_wp2
  refine leave_err (B := w.heap.size) (v2 := .int .i64 0) (er := 5) (v0 := .int .i64 0) (v1 := .slice none 0 0) ?h0 ?h1 ?h2 (by decide) ?hres ?_
  case h0 => (rw [heap_al, if_neg (by simp; omega), heap_al, if_neg (by simp), heap_al, if_pos rfl])
  case h1 => (rw [heap_al, if_neg (by simp), heap_al, if_pos (by simp)])
  case h2 => (rw [heap_al, if_pos (by simp)])
  case hres => (intro W' a b c d h1 h2 h3 h4; simp [results, Tryd.results15, go_sem, h1, h2, h3, h4])
  refine ⟨.slice none 0 0, ?_, ?_, ?_⟩
  · rw [HP.out]
  · rw [HP.out]; exact ⟨[], Sl.nil, rfl, fun i h => absurd h (by simp)⟩
  · exact (((((Below.refl _ _).alloc (Nat.le_refl _) _).alloc (by simp) _).alloc (by simp; omega) _).setCell (p := ⟨w.heap.size, 0, none⟩) (Nat.le_refl _) _).setCell (p := ⟨w.heap.size, 1, none⟩) (Nat.le_refl _) _

end Go.Proofs.YtfllhhgnflpagaaDoor
