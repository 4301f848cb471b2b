/-
  The builder in memory, and the walks of package gate: New, True, Fresh, has, clauses.
  The walks of package gate: New, Fresh, clauses.
-/
import Derived.Test.YtjcnhnifageikaaDoorProg
import Derived.Test.YtjcnhnifageikaaDoorLib
import Derived.Test.YtjcnhnifageikaaDoorForm
import Derived.Laws.OwnMore
import Derived.Test.YtjcnhnifageikaaDoorApp
namespace Go.Proofs.YtjcnhnifageikaaDoor
set_option linter.unusedSimpArgs false
set_option linter.unusedVariables false
open Go.RowKit

/-- The block of the clauses of the builder at block bb. -/
def bblk (w : World) (bb : Nat) : Option Nat :=
  match w.heap[bb]? with
  | some (.cells cs _ _) => (cs.getD 1 undef).ownBlock
  | _ => none

/-- Block k is that of one of the clauses. -/
def bcl (w : World) (bb k : Nat) : Prop :=
  ∃ a g n c t fz, w.heap[bb]? = some (.cells #[a, .slice (some ⟨g, 0, none⟩) n c] t fz) ∧ ∃ i, i < n ∧ ∃ s, w.cell? ⟨g, i, none⟩ = some s ∧ s.ownBlock = some k

/-- Block k is there, and neither the builder's own nor that of its list of clauses. -/
def Rd (bb : Nat) (w : World) (k : Nat) : Prop := k < w.heap.size ∧ k ≠ bb ∧ bblk w bb ≠ some k
/-- Block k is there, and not the builder's, nor that of a clause. -/
def Away (bb : Nat) (w : World) (k : Nat) : Prop := Rd bb w k ∧ ¬ bcl w bb k

/-- At block bb there lies a builder whose formula is F. -/
structure IsB (w : World) (bb : Nat) (F : Form) : Prop where
  ex : ∃ v vs, w.heap[bb]? = some (.cells #[.int .i64 (F.vars : Int), v] 83 (0, 0)) ∧ w.ownsRow 0 23 1 v vs.length vs ∧ v.ownBlock ≠ some bb ∧
    vs.length = F.cls.length ∧ (∀ i (h : i < F.cls.length) (h' : i < vs.length), Ints (Rd bb w) w vs[i] F.cls[i]) ∧ ∀ u ∈ vs, ∀ k, u.ownBlock = some k → Rd bb w k
  pos : 1 ≤ F.vars
  vars : F.vars ≤ 1048576
  cls : F.cls.length ≤ 1048576

/-- What a step keeps that may change the builder at bb. -/
abbrev FrB (bb : Nat) (w w' : World) : Prop := Fr (Away bb w) (Away bb w') w w'

theorem bblk_of {w : World} {bb : Nat} {a v : Value} {t : TypeId} {fz : Nat × Nat} (h : w.heap[bb]? = some (.cells #[a, v] t fz)) : bblk w bb = v.ownBlock := by
  simp [bblk, h]

theorem bcl_of {w : World} {bb k e : Nat} {a v : Value} {t : TypeId} {fz : Nat × Nat} {vs : List Value} (h : w.heap[bb]? = some (.cells #[a, v] t fz)) (ho : w.ownsRow 0 e 1 v vs.length vs) :
    bcl w bb k ↔ ∃ u, u ∈ vs ∧ u.ownBlock = some k := by
  constructor
  · rintro ⟨a', g, n, c, t', fz', h', i, hi, s, hs, hk⟩
    rw [h] at h'
    have hv : v = .slice (some ⟨g, 0, none⟩) n c := by simp at h'; exact h'.1.2
    subst hv
    have hn : n = vs.length := by
      rcases ho.2 with ⟨e1, _⟩ | ⟨_, _, _, e1, _⟩
      · simp at e1
      · simp at e1; exact e1.2.1
    subst hn
    have := ho.cellAt i (by omega)
    rw [hs] at this
    exact ⟨s, List.mem_of_getElem? this.symm, hk⟩
  · rintro ⟨u, hu, hk⟩
    obtain ⟨i, hi, rfl⟩ := List.mem_iff_getElem.1 hu
    rcases ho.2 with ⟨_, e1⟩ | ⟨g, c, cur, rfl, _⟩
    · omega
    · exact ⟨a, g, vs.length, c, t, fz, h, i, hi, vs[i], by rw [ho.cellAt i (by omega)]; exact List.getElem?_eq_getElem hi, hk⟩

theorem Away.size {bb k : Nat} {w : World} (h : Away bb w k) : k < w.heap.size := h.1.1
theorem Rd.size {bb k : Nat} {w : World} (h : Rd bb w k) : k < w.heap.size := h.1
theorem Away.ne {bb k : Nat} {w : World} (h : Away bb w k) : k ≠ bb := h.1.2.1

theorem IsB.lt {w : World} {bb : Nat} {F : Form} (h : IsB w bb F) : bb < w.heap.size := by
  obtain ⟨v, vs, hh, _⟩ := h.ex
  exact (Array.getElem?_eq_some_iff.1 hh).1

theorem IsB.bblk_lt {w : World} {bb : Nat} {F : Form} (h : IsB w bb F) {k : Nat} (hk : bblk w bb = some k) : k < w.heap.size := by
  obtain ⟨v, vs, hh, ho, _⟩ := h.ex
  rw [bblk_of hh] at hk
  exact (ho.lt k hk).2

theorem IsB.bcl_lt {w : World} {bb : Nat} {F : Form} (h : IsB w bb F) {k : Nat} (hk : bcl w bb k) : k < w.heap.size := by
  obtain ⟨v, vs, hh, ho, _, _, _, hr⟩ := h.ex
  obtain ⟨u, hu, hk⟩ := (bcl_of hh ho).1 hk
  exact (hr u hu k hk).1

theorem Rd.below {bb : Nat} {w w' : World} (hbb : bb < w.heap.size) (hb : Below w.heap.size w w') {k : Nat} (h : Rd bb w k) : Rd bb w' k :=
  ⟨Nat.lt_of_lt_of_le h.1 hb.size, h.2.1, by
    have e : bblk w' bb = bblk w bb := by simp only [bblk, hb.block bb hbb]
    rw [e]; exact h.2.2⟩

/-- The builder is as it was where all blocks are. -/
theorem IsB.below {w w' : World} {bb : Nat} {F : Form} (h : IsB w bb F) (hb : Below w.heap.size w w') : IsB w' bb F := by
  have hlt := h.lt
  obtain ⟨v, vs, hh, ho, hne, hl, hc, hr⟩ := h.ex
  refine ⟨⟨v, vs, (hb.block bb hlt).trans hh, ?_, hne, hl, fun i hi hi' => (hc i hi hi').keep (fun k hk => ⟨hk.below hlt hb, hb.block k hk.1⟩), fun u hu k hk => (hr u hu k hk).below hlt hb⟩, h.pos, h.vars, h.cls⟩
  exact ho.kept (row := none) ⟨hb.os, hb.tape, hb.output, hb.size, fun k hk _ => hb.block k hk⟩ (by cases v.ownBlock <;> simp)

theorem IsB.bcl_below {w w' : World} {bb : Nat} {F : Form} (h : IsB w bb F) (hb : Below w.heap.size w w') {k : Nat} (hk : bcl w' bb k) : bcl w bb k := by
  obtain ⟨v, vs, hh, ho, _⟩ := h.ex
  have hh' : w'.heap[bb]? = _ := (hb.block bb h.lt).trans hh
  have ho' : w'.ownsRow 0 23 1 v vs.length vs := ho.kept (row := none) ⟨hb.os, hb.tape, hb.output, hb.size, fun k hk _ => hb.block k hk⟩ (by cases v.ownBlock <;> simp)
  exact (bcl_of hh ho).2 ((bcl_of hh' ho').1 hk)

/-- A step that keeps all blocks keeps the builder. -/
theorem FrB.of_below {bb : Nat} {F : Form} {w w' : World} (hB : IsB w bb F) (h : Below w.heap.size w w') : FrB bb w w' :=
  ⟨h.os, h.tape, h.output, h.size, fun k hk => ⟨⟨hk.1.below hB.lt h, fun e => hk.2 (hB.bcl_below h e)⟩, h.block k hk.size⟩⟩

/-- A block that is made afterwards is none of the builder's. -/
theorem IsB.away_new {w w' : World} {bb : Nat} {F : Form} (h : IsB w bb F) (hb : Below w.heap.size w w') {k : Nat} (h1 : w.heap.size ≤ k) (h2 : k < w'.heap.size) : Away bb w' k := by
  have hlt := h.lt
  refine ⟨⟨h2, by omega, fun e => ?_⟩, fun e => ?_⟩
  · have e' : bblk w' bb = bblk w bb := by simp only [bblk, hb.block bb hlt]
    have := h.bblk_lt (e'.symm.trans e)
    omega
  · have := h.bcl_lt (h.bcl_below hb e)
    omega

/-- The cells of a builder, as a walk reads them. -/
theorem IsB.cells {w : World} {bb : Nat} {F : Form} (h : IsB w bb F) : ∃ p c, w.cell? ⟨bb, 0, none⟩ = some (.int .i64 (F.vars : Int)) ∧ w.cell? ⟨bb, 1, none⟩ = some (.slice p F.cls.length c) ∧
    w.frozen? ⟨bb, 0, none⟩ = false ∧ w.frozen? ⟨bb, 1, none⟩ = false := by
  obtain ⟨v, vs, hh, ho, hne, hl, _⟩ := h.ex
  have hv : ∃ p c, v = .slice p vs.length c := by
    rcases ho.2 with ⟨rfl, h0⟩ | ⟨g, cap, cur, rfl, _⟩
    · exact ⟨none, 0, by rw [h0]⟩
    · exact ⟨_, _, rfl⟩
  obtain ⟨p, c, rfl⟩ := hv
  rw [hl] at hh
  exact ⟨p, c, by simp [World.cell?, hh], by simp [World.cell?, hh], by simp [World.frozen?, hh], by simp [World.frozen?, hh]⟩

theorem true_any (bb : Nat) (w : World) : Calls Tryd.prog 18 #[.pointer (some ⟨bb, 0, none⟩)] w fun e w' => e = .returned (.int .i64 1) ∧ w = w' := by
  go_enter Tryd.func18, Tryd.ntmps18
  go_wp2
  go_ret
  exact ⟨rfl, rfl⟩

set_option maxHeartbeats 400000 in
theorem has_any (bb : Nat) (nv : Int) (p : Option Addr) (n cap : Nat) (zs : List Int) (R : Nat → Prop) (w : World) (hn : n = zs.length) (hm : zs.length ≤ 140737488355328)
    (hb : w.cell? ⟨bb, 0, none⟩ = some (.int .i64 nv)) (h0 : 0 ≤ nv) (h1 : nv ≤ 1048576) (hr : RowR R w p (zs.map (Value.int .i64))) :
    Calls Tryd.prog 49 #[.pointer (some ⟨bb, 0, none⟩), .slice p n cap] w fun e w' => e = .returned (.bool (hasAll nv zs)) ∧ w = w' := by
  subst hn
  go_enter Tryd.func49, Tryd.ntmps49
  go_wp2
  go_loop [9] (fun i => ∃ k : Nat, k ≤ zs.length ∧ i = .int .i64 k ∧ hasAll nv (zs.take k) = true) (fun i => zs.length - (intOf i).toNat)
  case atStart => exact ⟨0, by omega, rfl, by simp [hasAll]⟩
  case round =>
    obtain ⟨k, hk, rfl, hs⟩ := hrel
    by_cases hlt : k < zs.length
    · obtain ⟨b, off, rfl, _, hc⟩ := hr.atI k hlt
      have hcell := hc k hlt
      have hstep := hasAll_step nv zs k hlt hs
      have hno := hasAll_no nv zs k hlt
      clear hs hr hc
      generalize zs[k] = x at *
      have H1 := hid hstep; clear hstep
      have H2 := hid hno; clear hno
      by_cases c1 : x = 0
      · subst c1
        go_wp2
        go_ret
        exact ⟨ret_b (H2.out (by simp [okLit])).symm, rfl⟩
      · have d1 : (x == 0) = false := by simp [c1]
        by_cases c2 : nv < x
        · go_wp2
          go_ret
          exact ⟨ret_b (H2.out (by simp [okLit, d1, c2])).symm, rfl⟩
        · by_cases c3 : x < -nv
          · go_wp2
            go_ret
            exact ⟨ret_b (H2.out (by simp [okLit, d1, c2, c3])).symm, rfl⟩
          · go_wp2
            go_round
            case rel => exact ⟨k + 1, by omega, by go_num, H1.out (by simp [okLit, d1]; omega)⟩
            case measure => simp [intOf]; omega
    · obtain rfl : k = zs.length := by omega
      go_wp2
      go_ret
      exact ⟨ret_b (by rw [List.take_length] at hs; rw [hs]), rfl⟩

end Go.Proofs.YtjcnhnifageikaaDoor

namespace Go.Proofs.YtjcnhnifageikaaDoor
set_option linter.unusedSimpArgs false
set_option linter.unusedVariables false
open Go.RowKit

/-- Blocks that are new between two worlds. -/
def New (w w' : World) (k : Nat) : Prop := w.heap.size ≤ k ∧ k < w'.heap.size

/-- A step that changes the number of variables. -/
theorem IsB.setVars {w : World} {bb : Nat} {F : Form} (h : IsB w bb F) (n : Nat) (h1 : 1 ≤ n) (h2 : n ≤ 1048576) :
    IsB (w.setCell ⟨bb, 0, none⟩ (.int .i64 (n : Int))) bb ⟨n, F.cls⟩ ∧ FrB bb w (w.setCell ⟨bb, 0, none⟩ (.int .i64 (n : Int))) := by
  have hlt := h.lt
  obtain ⟨v, vs, hh, ho, hne, hl, hc, hr⟩ := h.ex
  have hnew : (w.setCell ⟨bb, 0, none⟩ (.int .i64 (n : Int))).heap[bb]? = some (.cells #[.int .i64 (n : Int), v] 83 (0, 0)) := by
    simp [World.setCell, Array.getElem?_modify, hh]
  have ho' : (w.setCell ⟨bb, 0, none⟩ (.int .i64 (n : Int))).ownsRow 0 23 1 v vs.length vs :=
    ho.kept (row := some bb) ⟨rfl, rfl, rfl, by simp, fun k hk hne' => Below.heap_setCell _ _ _ _ (fun e => hne' (by rw [e]))⟩ (.inr hne)
  have hRd : ∀ k, Rd bb w k → Rd bb (w.setCell ⟨bb, 0, none⟩ (.int .i64 (n : Int))) k ∧ (w.setCell ⟨bb, 0, none⟩ (.int .i64 (n : Int))).heap[k]? = w.heap[k]? := fun k hk =>
    ⟨⟨by simpa using hk.1, hk.2.1, by have := hk.2.2; rw [bblk_of hh] at this; rw [bblk_of hnew]; exact this⟩, Below.heap_setCell _ _ _ _ hk.2.1⟩
  have hfr : FrB bb w (w.setCell ⟨bb, 0, none⟩ (.int .i64 (n : Int))) :=
    ⟨rfl, rfl, rfl, by simp, fun k hk => ⟨⟨(hRd k hk.1).1, fun e => hk.2 ((bcl_of hh ho).2 ((bcl_of hnew ho').1 e))⟩, (hRd k hk.1).2⟩⟩
  exact ⟨⟨⟨v, vs, hnew, ho', hne, hl, fun i hi hi' => (hc i hi hi').keep hRd, fun u hu k hk => (hRd k (hr u hu k hk)).1⟩, h1, h2, h.cls⟩, hfr⟩

set_option maxHeartbeats 400000 in
theorem fresh_any (bb : Nat) (F : Form) (w : World) (hB : IsB w bb F) :
    Calls Tryd.prog 47 #[.pointer (some ⟨bb, 0, none⟩)] w fun e w' =>
      e = .returned (.tuple #[.int .i64 (freshM F).1, .int .i64 (freshM F).2.1]) ∧ IsB w' bb (freshM F).2.2 ∧ FrB bb w w' := by
  obtain ⟨p, c, h0, h1, f0, f1⟩ := hB.cells
  have hpos := hB.pos
  have hle := hB.vars
  by_cases hv : F.vars = 1048576
  · have e : freshM F = (0, 5, F) := by simp [freshM, hv]
    rw [e]
    have hd : ((F.vars : Int) == 1048576) = true := by simp; omega
    have HV := hid hv; clear hv
    go_enter Tryd.func47, Tryd.ntmps47
    go_wp2
    go_ret2
    exact ⟨rfl, hB, Fr.refl _ _⟩
  · have e : freshM F = ((F.vars : Int) + 1, 0, ⟨F.vars + 1, F.cls⟩) := by simp [freshM, hv]
    rw [e]
    have hd : ((F.vars : Int) == 1048576) = false := by simp; omega
    have hs := hB.setVars (F.vars + 1) (by omega) (by omega)
    rw [show (((F.vars + 1 : Nat)) : Int) = (F.vars : Int) + 1 from by omega] at hs
    have HS := hid hs; clear hs
    have h0' := World.cell?_setCell_same (a := ⟨bb, 0, none⟩) (v := .int .i64 ((F.vars : Int) + 1)) w h0
    go_enter Tryd.func47, Tryd.ntmps47
    go_wp2
    go_ret2
    exact ⟨rfl, HS.out⟩

/-- The new builder's memory. -/
theorem IsB.made (w : World) : IsB (((w.alloc (.cells #[.int .i64 1] 3)).alloc (.cells #[.slice (some ⟨w.heap.size, 0, none⟩) 1 1] 23)).alloc
    (.cells #[.int .i64 1, .slice (some ⟨w.heap.size + 1, 0, none⟩) 1 1] 83)) (w.heap.size + 2) ⟨1, [[1]]⟩ := by
  have e2 : (((w.alloc (.cells #[.int .i64 1] 3)).alloc (.cells #[.slice (some ⟨w.heap.size, 0, none⟩) 1 1] 23)).alloc
    (.cells #[.int .i64 1, .slice (some ⟨w.heap.size + 1, 0, none⟩) 1 1] 83)).heap[w.heap.size + 2]? = some (.cells #[.int .i64 1, .slice (some ⟨w.heap.size + 1, 0, none⟩) 1 1] 83 (0, 0)) := by
    simp only [heap_al, World.size_alloc]; simp
  have hR : Rd (w.heap.size + 2) (((w.alloc (.cells #[.int .i64 1] 3)).alloc (.cells #[.slice (some ⟨w.heap.size, 0, none⟩) 1 1] 23)).alloc
    (.cells #[.int .i64 1, .slice (some ⟨w.heap.size + 1, 0, none⟩) 1 1] 83)) w.heap.size := ⟨by simp; omega, by omega, by rw [bblk_of e2]; simp [Value.ownBlock]⟩
  refine ⟨⟨_, [.slice (some ⟨w.heap.size, 0, none⟩) 1 1], e2, ?_, by simp [Value.ownBlock], rfl, ?_, ?_⟩, by decide, by decide, by decide⟩
  · refine ⟨rfl, .inr ⟨w.heap.size + 1, 1, #[.slice (some ⟨w.heap.size, 0, none⟩) 1 1], rfl, Nat.zero_le _, ?_, Nat.le_refl _, by unfold maxLen; omega, rfl, rfl⟩⟩
    simp only [heap_al, World.size_alloc]; simp
  · intro i hi hi'
    obtain rfl : i = 0 := by simp at hi; omega
    refine ⟨_, 1, rfl, by simp, by unfold maxLen; omega, by simp, .inr ⟨_, 0, rfl, hR, ?_⟩⟩
    intro j hj
    obtain rfl : j = 0 := by simp at hj; omega
    simp [cell_al]
  · intro u hu k hk
    simp at hu; subst hu
    simp [Value.ownBlock] at hk; subst hk
    exact hR

theorem new_any (w : World) : Calls Tryd.prog 46 #[] w fun e w' =>
      ∃ bb, e = .returned (.pointer (some ⟨bb, 0, none⟩)) ∧ w.heap.size ≤ bb ∧ IsB w' bb ⟨1, [[1]]⟩ ∧ Fr (· < w.heap.size) (Away bb w') w w' := by
  have hm := IsB.made w
  have hb : Below w.heap.size w (((w.alloc (.cells #[.int .i64 1] 3)).alloc (.cells #[.slice (some ⟨w.heap.size, 0, none⟩) 1 1] 23)).alloc
    (.cells #[.int .i64 1, .slice (some ⟨w.heap.size + 1, 0, none⟩) 1 1] 83)) := (((Below.refl _ _).alloc (Nat.le_refl _) _).alloc (by simp) _).alloc (by simp; omega) _
  have e2 : bblk (((w.alloc (.cells #[.int .i64 1] 3)).alloc (.cells #[.slice (some ⟨w.heap.size, 0, none⟩) 1 1] 23)).alloc
    (.cells #[.int .i64 1, .slice (some ⟨w.heap.size + 1, 0, none⟩) 1 1] 83)) (w.heap.size + 2) = some (w.heap.size + 1) := by
    simp only [bblk, heap_al, World.size_alloc]; simp [Value.ownBlock]
  have hnb : ∀ k, k < w.heap.size → ¬ bcl (((w.alloc (.cells #[.int .i64 1] 3)).alloc (.cells #[.slice (some ⟨w.heap.size, 0, none⟩) 1 1] 23)).alloc
    (.cells #[.int .i64 1, .slice (some ⟨w.heap.size + 1, 0, none⟩) 1 1] 83)) (w.heap.size + 2) k := by
    rintro k hk ⟨a', g, n, c, t', fz', h', i, hi, s, hs, hk'⟩
    simp only [heap_al, World.size_alloc] at h'
    simp at h'
    obtain ⟨⟨rfl, rfl, rfl, rfl⟩, _⟩ := h'
    obtain rfl : i = 0 := by omega
    simp [cell_al] at hs
    subst hs
    simp [Value.ownBlock] at hk'
    omega
  have hfr : Fr (· < w.heap.size) (Away (w.heap.size + 2) (((w.alloc (.cells #[.int .i64 1] 3)).alloc (.cells #[.slice (some ⟨w.heap.size, 0, none⟩) 1 1] 23)).alloc
    (.cells #[.int .i64 1, .slice (some ⟨w.heap.size + 1, 0, none⟩) 1 1] 83))) w _ := Fr.of_below hb fun k hk => ⟨hk, ⟨by simp; omega, by omega, by rw [e2]; simp; omega⟩, hnb k hk⟩
  have HM := hid hm; clear hm
  have HF := hid hfr; clear hfr hb e2
  go_enter Tryd.func46, Tryd.ntmps46
  go_wp2
  go_ret
  exact ⟨_, rfl, by omega, HM.out, HF.out⟩

end Go.Proofs.YtjcnhnifageikaaDoor
