/-
  The walk of the law side's Word (a word of picked literals, and its bits).
-/
import Derived.Test.YtjcnhnifageikaaDoorLaw3
namespace Go.Proofs.YtjcnhnifageikaaDoor
set_option linter.unusedSimpArgs false
set_option linter.unusedVariables false
open Go.RowKit

/-- Two rows that are owned, not in one block. -/
structure Two (base e1 e2 : Nat) (w : World) (v1 : Value) (n1 : Nat) (xs1 : List Value) (v2 : Value) (n2 : Nat) (xs2 : List Value) : Prop where
  o1 : w.ownsRow base e1 1 v1 n1 xs1
  o2 : w.ownsRow base e2 1 v2 n2 xs2
  ne : ∀ j, v1.ownBlock = some j → v2.ownBlock ≠ some j

theorem Two.keep {base e1 e2 n1 n2 : Nat} {w w' : World} {v1 v2 : Value} {xs1 xs2 : List Value} (h : Two base e1 e2 w v1 n1 xs1 v2 n2 xs2) (hk : ∀ j, base ≤ j → j < w.heap.size → w'.heap[j]? = w.heap[j]?) : Two base e1 e2 w' v1 n1 xs1 v2 n2 xs2 :=
  ⟨owns_keep h.o1 fun j hj => hk j (h.o1.lt j hj).1 (h.o1.lt j hj).2, owns_keep h.o2 fun j hj => hk j (h.o2.lt j hj).1 (h.o2.lt j hj).2, h.ne⟩

theorem Two.push1 {base e1 e2 n1 n2 : Nat} {w w2 : World} {v1 v2 v1' : Value} {xs1 xs2 ys : List Value} {x : Value} {t : TypeId} {m : Nat} (h : Two base e1 e2 w v1 n1 xs1 v2 n2 xs2) (hg : (w.alloc (.cells #[x] t)).grownBy w2 v1.ownBlock)
    (ho : w2.ownsRow base e1 1 v1' m ys) (hat : v1'.ownBlock = v1.ownBlock ∨ v1'.ownBlock = some (w.alloc (.cells #[x] t)).heap.size) : Two base e1 e2 w2 v1' m ys v2 n2 xs2 := by
  have hgA := (World.grownBy_alloc w (.cells #[x] t) v1.ownBlock).trans hg
  refine ⟨ho, owns_keep h.o2 fun j hj => hgA.block j (h.o2.lt j hj).2 (fun e => h.ne j e.symm hj), fun j hj hj2 => ?_⟩
  rcases hat with e | e
  · exact h.ne j (e ▸ hj) hj2
  · rw [e] at hj; injection hj with hj
    have := (h.o2.lt j hj2).2
    rw [World.size_alloc] at hj; omega
theorem Two.push2 {base e1 e2 n1 n2 : Nat} {w w2 : World} {v1 v2 v2' : Value} {xs1 xs2 ys : List Value} {x : Value} {t : TypeId} {m : Nat} (h : Two base e1 e2 w v1 n1 xs1 v2 n2 xs2) (hg : (w.alloc (.cells #[x] t)).grownBy w2 v2.ownBlock)
    (ho : w2.ownsRow base e2 1 v2' m ys) (hat : v2'.ownBlock = v2.ownBlock ∨ v2'.ownBlock = some (w.alloc (.cells #[x] t)).heap.size) : Two base e1 e2 w2 v1 n1 xs1 v2' m ys := by
  have hgA := (World.grownBy_alloc w (.cells #[x] t) v2.ownBlock).trans hg
  refine ⟨owns_keep h.o1 fun j hj => hgA.block j (h.o1.lt j hj).2 (fun e => h.ne j hj e.symm), ho, fun j hj hj2 => ?_⟩
  rcases hat with e | e
  · exact h.ne j hj (e ▸ hj2)
  · rw [e] at hj2; injection hj2 with hj2
    have := (h.o1.lt j hj).2
    rw [World.size_alloc] at hj2; omega

set_option maxHeartbeats 3200000 in
theorem word_mk (bb n : Nat) (σ : Nat → Bool) (F : Form) (vin vval : Value) (width : Nat) (vl : Value) (l : List Int) (R : Nat → Prop) (w : World) (hC : Circ w bb n σ F vin vval) (hwd : width ≤ 1024)
    (hR : ∀ k, R k → k < w.heap.size) (hl : Ints R w vl l) (hb : ∀ x ∈ l, -9223372036854775808 ≤ x ∧ x ≤ 9223372036854775807) :
    Calls Tryd.prog 28 #[.agg #[.pointer (some ⟨bb, 0, none⟩), vin, vval], .int .i64 (width : Int), vl] w fun e w' =>
      ∃ v1 v2 lits, e = .returned (.tuple #[v1, v2]) ∧ lits.length = width ∧ (∀ x ∈ lits, okLit F.vars x = true) ∧ Ints (New w w') w' v1 lits ∧ Bools (New w w') w' v2 (lits.map (litT σ)) ∧ Below w.heap.size w w' := by
  obtain ⟨pl, cl, rfl, hl1, hl2, hl3, hrl⟩ := hl.op
  have HC := hid hC; have HB := hid hb; have HR := hid hR
  have hbel0 : Below w.heap.size w (w.alloc (.cells #[.pointer (some ⟨bb, 0, none⟩), vin, vval] 30)) := (Below.refl _ _).alloc (Nat.le_refl _) _
  have hc0 : (w.alloc (.cells #[.pointer (some ⟨bb, 0, none⟩), vin, vval] 30)).heap[w.heap.size]? = some (.cells #[.pointer (some ⟨bb, 0, none⟩), vin, vval] 30 (0, 0)) := by rw [heap_al, if_pos rfl]
  have HB0 := hid hbel0; have HC0 := hid hc0
  obtain ⟨pi, ci, rfl, _, _, _, _⟩ := hC.inp.op
  obtain ⟨pv, cv, rfl, _, _, _, _⟩ := hC.val.op
  rw [insM_len, valsM_len] at *
  have hlM : l.length ≤ 9223372036854775807 := by omega
  clear hC hb hR hbel0 hc0 hl
  go_enter Tryd.func28, Tryd.ntmps28
  go_wp2_with fail
  go_loopw [8, 9, 10] (fun v1 v2 i wr => ∃ (k : Nat) (lits : List Int), k ≤ width ∧ i = .int .i64 k ∧ lits.length = k ∧ (∀ x ∈ lits, okLit F.vars x = true) ∧ Two (w.heap.size + 1) 3 4 wr v1 k (lits.map (Value.int .i64)) v2 k ((lits.map (litT σ)).map Value.bool) ∧
    wr.heap[w.heap.size]? = some (.cells #[.pointer (some ⟨bb, 0, none⟩), .slice pi n ci, .slice pv n cv] 30 (0, 0)) ∧ Below w.heap.size w wr ∧ w.heap.size + 1 ≤ wr.heap.size) (fun _ _ i _ => width - (intOf i).toNat)
  case atStart => exact ⟨0, [], Nat.zero_le _, rfl, rfl, (fun x hx => by cases hx), ⟨World.ownsRow_nil _ _ _ _, World.ownsRow_nil _ _ _ _, fun j e => by cases e⟩, HC0.out, HB0.out, by simp⟩
  case round =>
    obtain ⟨k, lits, hk, rfl, hll, hok, hT, hcb, hbel, hsz⟩ := hrel
    obtain ⟨wo, rfl⟩ : ∃ wo : World, wo = wr := ⟨_, rfl⟩
    obtain ⟨p1, c1, rfl⟩ := own_slice hT.o1
    obtain ⟨p2, c2, rfl⟩ := own_slice hT.o2
    have e0 : wo.cell? ⟨w.heap.size, 0, none⟩ = some (.pointer (some ⟨bb, 0, none⟩)) := by rw [cell_of_cells hcb]; rfl
    have e1 : wo.cell? ⟨w.heap.size, 1, none⟩ = some (.slice pi n ci) := by rw [cell_of_cells hcb]; rfl
    have e2 : wo.cell? ⟨w.heap.size, 2, none⟩ = some (.slice pv n cv) := by rw [cell_of_cells hcb]; rfl
    have HCB := hid hcb; have HBE := hid hbel; have HT := hid hT; have HLL := hid hll; have HOK := hid hok
    clear hcb hT hll hok
    by_cases hlt : k < width
    · have hpk : ∀ z, (-9223372036854775808 ≤ z ∧ z ≤ 9223372036854775807) → Calls Tryd.prog 48 #[.agg #[.pointer (some ⟨bb, 0, none⟩), .slice pi n ci, .slice pv n cv], .int .i64 z] wo fun e w' =>
          ∃ lit b, e = .returned (.tuple #[.int .i64 lit, .bool b]) ∧ okLit F.vars lit = true ∧ litT σ lit = b ∧ Below wo.heap.size wo w' := fun z hz => pick_any bb n σ F _ _ z wo (HC.out.below hbel) hz
      have hst : ∀ lit b w1 w2 v1' w3 v2', okLit F.vars lit = true → litT σ lit = b → Below wo.heap.size wo w1 →
          (w1.alloc (.cells #[.int .i64 lit] 3)).grownBy w2 (Value.slice p1 k c1).ownBlock → w2.ownsRow (w.heap.size + 1) 3 1 v1' (k + 1) (lits.map (Value.int .i64) ++ [.int .i64 lit]) →
          (v1'.ownBlock = (Value.slice p1 k c1).ownBlock ∨ v1'.ownBlock = some (w1.alloc (.cells #[.int .i64 lit] 3)).heap.size) →
          (w2.alloc (.cells #[.bool b] 4)).grownBy w3 (Value.slice p2 k c2).ownBlock → w3.ownsRow (w.heap.size + 1) 4 1 v2' (k + 1) ((lits.map (litT σ)).map Value.bool ++ [.bool b]) →
          (v2'.ownBlock = (Value.slice p2 k c2).ownBlock ∨ v2'.ownBlock = some (w2.alloc (.cells #[.bool b] 4)).heap.size) →
          (∀ x ∈ lits ++ [lit], okLit F.vars x = true) ∧ Two (w.heap.size + 1) 3 4 w3 v1' (k + 1) ((lits ++ [lit]).map (Value.int .i64)) v2' (k + 1) (((lits ++ [lit]).map (litT σ)).map Value.bool) ∧
            w3.heap[w.heap.size]? = some (.cells #[.pointer (some ⟨bb, 0, none⟩), .slice pi n ci, .slice pv n cv] 30 (0, 0)) ∧ Below w.heap.size w w3 ∧ w.heap.size + 1 ≤ w3.heap.size := fun lit b w1 w2 v1' w3 v2' h1 h2 h3 g1 o1 a1 g2 o2 a2 => by
        have hT1 := HT.out.keep (w' := w1) (fun j _ hj => h3.block j hj)
        have hT2 := hT1.push1 g1 o1 a1
        have hT3 := hT2.push2 g2 o2 a2
        have gA := (World.grownBy_alloc w1 (.cells #[.int .i64 lit] 3) (Value.slice p1 k c1).ownBlock).trans g1
        have gB := (World.grownBy_alloc w2 (.cells #[.bool b] 4) (Value.slice p2 k c2).ownBlock).trans g2
        have l1 := HT.out.o1.lt; have l2 := HT.out.o2.lt
        have s1 := h3.size; have s2 := gA.size; have s3 := gB.size
        have hkeep : ∀ j, j < w.heap.size + 1 → w3.heap[j]? = wo.heap[j]? := fun j hj =>
          (gB.block j (by omega) (fun e => by have := (l2 j e.symm).1; omega)).trans ((gA.block j (by omega) (fun e => by have := (l1 j e.symm).1; omega)).trans (h3.block j (by omega)))
        refine ⟨fun x hx => ?_, ?_, (hkeep _ (by omega)).trans HCB.out, ⟨gB.os.trans (gA.os.trans (h3.os.trans HBE.out.os)), gB.tape.trans (gA.tape.trans (h3.tape.trans HBE.out.tape)), gB.output.trans (gA.output.trans (h3.output.trans HBE.out.output)), by omega, fun j hj => (hkeep j (by omega)).trans (HBE.out.block j hj)⟩, by omega⟩
        · rcases List.mem_append.1 hx with hx | hx
          · exact HOK.out x hx
          · simp at hx; rw [hx]; exact h1
        · simp only [List.map_append, List.map_cons, List.map_nil, h2]
          exact hT3
      have HPK := hid hpk; have HST := hid hst
      have l1 := HT.out.o1.lt; have l2 := HT.out.o2.lt
      have HL1 := hid l1; have HL2 := hid l2
      clear hpk hst hbel l1 l2
      have TK : True := trivial
      by_cases hl0 : 0 < l.length
      · have hmn : ((k : Int) % (l.length : Int)) = ((k % l.length : Nat) : Int) := (Int.natCast_emod k l.length).symm
        have hml : k % l.length < l.length := Nat.mod_lt _ hl0
        obtain ⟨b, off, rfl, hRb, hc⟩ := hrl.atI (k % l.length) hml
        have hcell := (HBE.out.cell (p := ⟨b, off + k % l.length, none⟩) (HR.out b hRb)).trans (hc _ hml)
        have hbx := HB.out _ (List.getElem_mem hml)
        have hlz : ((l.length : Int) == 0) = false := by rw [beq_eq_false_iff_ne]; omega
        have HMN := hid hmn
        clear hc hmn
        generalize l[k % l.length] = x at *
        go_wp2_with (first
          | (go_at_call 48; refine (HPK.out _ hbx).mono ?_; rintro e w1 ⟨lit, b0, rfl, hok1, hlt1, hb1⟩; have HOK1 := hid hok1; have HLT1 := hid hlt1; have HB1 := hid hb1; clear hok1 hlt1 hb1)
          | (at_builtin; have _t := TK; refine wpList_app _ rfl (.tmp 38) (.tmp 40) 23 rfl (w.heap.size + 1) 3 (.int .i64 0) 8 Tryd.underlying23 info_int rfl _ k _ rfl ((HT.out.keep (w' := w1) (fun j _ hj => HB1.out.block j hj)).o1.alloc _) (some ⟨w1.heap.size, 0, none⟩) 1 1 [.int .i64 lit] rfl rfl (RowR.one _ _ _) (by simp [Value.oneCell']) (by omega) (by unfold maxLen; omega) (by have := HB1.out.size; rw [World.size_alloc]; omega) ?_; intro v1' w2 o1 g1 a1; have HO1 := hid o1; have HG1 := hid g1; have HA1 := hid a1; clear o1 g1 a1 TK; have hs2 := HG1.out.size; simp only [World.size_alloc] at hs2; have hs1 := HB1.out.size)
          | (at_builtin; refine wpList_app _ rfl (.tmp 42) (.tmp 44) 22 rfl (w.heap.size + 1) 4 (.bool false) 1 Tryd.underlying22 info_bool rfl _ k _ rfl (((HT.out.keep (w' := w1) (fun j _ hj => HB1.out.block j hj)).push1 HG1.out HO1.out HA1.out).o2.alloc _) (some ⟨w2.heap.size, 0, none⟩) 1 1 [.bool b0] rfl rfl (RowR.one _ _ _) (by simp [Value.oneCell']) (by omega) (by unfold maxLen; omega) (by rw [World.size_alloc]; omega) ?_; intro v2' w3 o2 g2 a2; have HF := hid (HST.out lit b0 w1 w2 v1' w3 v2' HOK1.out HLT1.out HB1.out HG1.out HO1.out HA1.out g2 o2 a2); clear o2 g2 a2))
        go_roundw
        case rel => exact ⟨k + 1, lits ++ [lit], by omega, by go_num, by rw [List.length_append, HLL.out]; rfl, HF.out⟩
        case measure => simp [intOf]; omega
      · have hl0' : l.length = 0 := by omega
        have hd : decide ((0 : Int) < (l.length : Int)) = false := decide_eq_false (by omega)
        have hz : -9223372036854775808 ≤ 2 * ((k : Int) + 1) ∧ 2 * ((k : Int) + 1) ≤ 9223372036854775807 := by omega
        have HL0 := hid hl0'
        clear hl0'
        go_wp2_with (first
          | (go_at_call 48; refine (HPK.out _ hz).mono ?_; rintro e w1 ⟨lit, b0, rfl, hok1, hlt1, hb1⟩; have HOK1 := hid hok1; have HLT1 := hid hlt1; have HB1 := hid hb1; clear hok1 hlt1 hb1)
          | (at_builtin; have _t := TK; refine wpList_app _ rfl (.tmp 38) (.tmp 40) 23 rfl (w.heap.size + 1) 3 (.int .i64 0) 8 Tryd.underlying23 info_int rfl _ k _ rfl ((HT.out.keep (w' := w1) (fun j _ hj => HB1.out.block j hj)).o1.alloc _) (some ⟨w1.heap.size, 0, none⟩) 1 1 [.int .i64 lit] rfl rfl (RowR.one _ _ _) (by simp [Value.oneCell']) (by omega) (by unfold maxLen; omega) (by have := HB1.out.size; rw [World.size_alloc]; omega) ?_; intro v1' w2 o1 g1 a1; have HO1 := hid o1; have HG1 := hid g1; have HA1 := hid a1; clear o1 g1 a1 TK; have hs2 := HG1.out.size; simp only [World.size_alloc] at hs2; have hs1 := HB1.out.size)
          | (at_builtin; refine wpList_app _ rfl (.tmp 42) (.tmp 44) 22 rfl (w.heap.size + 1) 4 (.bool false) 1 Tryd.underlying22 info_bool rfl _ k _ rfl (((HT.out.keep (w' := w1) (fun j _ hj => HB1.out.block j hj)).push1 HG1.out HO1.out HA1.out).o2.alloc _) (some ⟨w2.heap.size, 0, none⟩) 1 1 [.bool b0] rfl rfl (RowR.one _ _ _) (by simp [Value.oneCell']) (by omega) (by unfold maxLen; omega) (by rw [World.size_alloc]; omega) ?_; intro v2' w3 o2 g2 a2; have HF := hid (HST.out lit b0 w1 w2 v1' w3 v2' HOK1.out HLT1.out HB1.out HG1.out HO1.out HA1.out g2 o2 a2); clear o2 g2 a2))
        go_roundw
        case rel => exact ⟨k + 1, lits ++ [lit], by omega, by go_num, by rw [List.length_append, HLL.out]; rfl, HF.out⟩
        case measure => simp [intOf]; omega
    · obtain rfl : k = width := by omega
      clear hbel
      go_wp2
      go_ret2
      have h1 := HT.out.o1
      have h2 := HT.out.o2
      exact ⟨_, _, lits, rfl, HLL.out, HOK.out, Sl.of_owns h1 (by omega) (fun j hj => ⟨by have := (h1.lt j hj).1; omega, (h1.lt j hj).2⟩), Sl.of_owns h2 (by omega) (fun j hj => ⟨by have := (h2.lt j hj).1; omega, (h2.lt j hj).2⟩), HBE.out⟩

end Go.Proofs.YtjcnhnifageikaaDoor
