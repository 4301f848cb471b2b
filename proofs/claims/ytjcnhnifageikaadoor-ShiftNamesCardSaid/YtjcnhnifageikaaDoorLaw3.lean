/-
  The circuit of the law side in memory; the walks of Assume, Pick, Word.
-/
import Derived.Test.YtjcnhnifageikaaDoorAdd8
import Derived.Test.YtjcnhnifageikaaDoorLaw1
import Derived.BigQuiet
import Derived.Deep.QuietTactic
namespace Go.Proofs.YtjcnhnifageikaaDoor
set_option linter.unusedSimpArgs false
set_option linter.unusedVariables false
open Go.RowKit

theorem info_bool : (Tryd.prog.info? 4).map (fun i => (i.zero, i.size, i.bytes)) = some (some (.bool false), 1, 1) := by kernel_rfl
theorem bools_one (xs : List Bool) : ∀ u ∈ xs.map Value.bool, u.oneCell' = true := by
  intro u hu; obtain ⟨x, _, rfl⟩ := List.mem_map.1 hu; rfl

/-- The inputs, and their values. -/
def insM (n : Nat) : List Int := (List.range n).map fun (i : Nat) => (i : Int) + 2
def valsM (n : Nat) (σ : Nat → Bool) : List Bool := (List.range n).map fun i => σ (i + 2)
theorem insM_len (n : Nat) : (insM n).length = n := by simp [insM]
theorem valsM_len (n : Nat) (σ : Nat → Bool) : (valsM n σ).length = n := by simp [valsM]

/-- A circuit with n inputs. -/
structure Circ (w : World) (bb n : Nat) (σ : Nat → Bool) (F : Form) (vin vval : Value) : Prop where
  b : IsB w bb F
  good : Good n σ F
  inp : Ints (Away bb w) w vin (insM n)
  val : Bools (Away bb w) w vval (valsM n σ)
  n : n ≤ 1024

def circV (bb : Nat) (vin vval : Value) : Value := .agg #[.pointer (some ⟨bb, 0, none⟩), vin, vval]

theorem valsM_ext {n : Nat} {σ σ' : Nat → Bool} (h : ∀ v, v ≤ n + 1 → σ' v = σ v) : valsM n σ' = valsM n σ := by
  unfold valsM
  exact List.map_congr_left fun i hi => h _ (by simp at hi; omega)

theorem Circ.step {w w' : World} {bb n : Nat} {σ σ' : Nat → Bool} {F F' : Form} {vin vval : Value} {dv dc : Nat} (h : Circ w bb n σ F vin vval) (hf : FrB bb w w') (hB : IsB w' bb F') (hx : Ext n σ F σ' F' dv dc) : Circ w' bb n σ' F' vin vval :=
  ⟨hB, hx.good, h.inp.fr hf, by rw [valsM_ext fun v hv => hx.old v (by have := h.good.inp; omega)]; exact h.val.fr hf, h.n⟩
theorem Circ.below {w w' : World} {bb n : Nat} {σ : Nat → Bool} {F : Form} {vin vval : Value} (h : Circ w bb n σ F vin vval) (hb : Below w.heap.size w w') : Circ w' bb n σ F vin vval :=
  ⟨h.b.below hb, h.good, h.inp.fr (FrB.of_below h.b hb), h.val.fr (FrB.of_below h.b hb), h.n⟩

def assumeM (ins : List Int) (vals : List Bool) : List Int := (ins.zip vals).map fun p => if p.2 then p.1 else -p.1

set_option maxHeartbeats 1600000 in
theorem assume_any (pb : Option Addr) (vin vval : Value) (ins : List Int) (vals : List Bool) (R : Nat → Prop) (w : World) (hR : ∀ k, R k → k < w.heap.size) (hi : Ints R w vin ins) (hv : Bools R w vval vals) (hl : vals.length = ins.length) (hb : ∀ x ∈ ins, Bd x) (hm : ins.length ≤ 4194304) :
    Calls Tryd.prog 21 #[.agg #[.pointer pb, vin, vval]] w fun e w' => ∃ v, e = .returned v ∧ Ints (New w w') w' v (assumeM ins vals) ∧ Below w.heap.size w w' := by
  obtain ⟨pi, ci, rfl, _, _, _, hri⟩ := hi.op
  obtain ⟨pv, cv, rfl, _, _, _, hrv⟩ := hv.op
  have HL := hid hl; have HB := hid hb; have HR := hid hR
  have hbel0 : Below w.heap.size w (w.alloc (.cells #[.pointer pb, .slice pi ins.length ci, .slice pv vals.length cv] 30)) := (Below.refl _ _).alloc (Nat.le_refl _) _
  have hc0 : (w.alloc (.cells #[.pointer pb, .slice pi ins.length ci, .slice pv vals.length cv] 30)).heap[w.heap.size]? = some (.cells #[.pointer pb, .slice pi ins.length ci, .slice pv vals.length cv] 30 (0, 0)) := by rw [heap_al, if_pos rfl]
  have HB0 := hid hbel0; have HC0 := hid hc0
  have hsz0 : (w.alloc (.cells #[.pointer pb, .slice pi ins.length ci, .slice pv vals.length cv] 30)).heap.size = w.heap.size + 1 := by simp only [World.size_alloc]
  have HS0 := hid hsz0
  clear hl hb hR hbel0 hc0 hsz0
  go_enter Tryd.func21, Tryd.ntmps21
  go_wp2_with fail
  go_loopw [3, 4] (fun v i wr => ∃ (k : Nat), k ≤ ins.length ∧ i = .int .i64 k ∧ wr.ownsRow (w.heap.size + 1) 3 1 v k ((assumeM ins vals).take k |>.map (Value.int .i64)) ∧ wr.heap[w.heap.size]? = some (.cells #[.pointer pb, .slice pi ins.length ci, .slice pv vals.length cv] 30 (0, 0)) ∧ Below w.heap.size w wr ∧ w.heap.size + 1 ≤ wr.heap.size) (fun _ i _ => ins.length - (intOf i).toNat)
  case atStart => exact ⟨0, Nat.zero_le _, rfl, World.ownsRow_nil _ _ _ _, HC0.out, HB0.out, by rw [HS0.out]; exact Nat.le_refl _⟩
  case round =>
    obtain ⟨k, hk, rfl, hown, hcb, hbel, hsz⟩ := hrel
    obtain ⟨wo, rfl⟩ : ∃ wo : World, wo = wr := ⟨_, rfl⟩
    obtain ⟨po, co, rfl⟩ := own_slice hown
    have c1 : wo.cell? ⟨w.heap.size, 1, none⟩ = some (.slice pi ins.length ci) := by rw [cell_of_cells hcb]; rfl
    have c2 : wo.cell? ⟨w.heap.size, 2, none⟩ = some (.slice pv vals.length cv) := by rw [cell_of_cells hcb]; rfl
    have HCB := hid hcb; have HBE := hid hbel; have HO := hid hown
    by_cases hlt : k < ins.length
    · have hkv : k < vals.length := by have := HL.out; omega
      obtain ⟨b1, o1, rfl, hR1, hcc1⟩ := hri.atI k hlt
      obtain ⟨b2, o2, rfl, hR2, hcc2⟩ := hrv.atB k hkv
      have d1 := (hbel.cell (p := ⟨b1, o1 + k, none⟩) (HR.out b1 hR1)).trans (hcc1 k hlt)
      have d2 := (hbel.cell (p := ⟨b2, o2 + k, none⟩) (HR.out b2 hR2)).trans (hcc2 k hkv)
      have hbx := HB.out _ (List.getElem_mem hlt)
      unfold Bd at hbx
      have hz : k < (assumeM ins vals).length := by unfold assumeM; rw [List.length_map, List.length_zip]; omega
      have hsn : (assumeM ins vals).take (k + 1) = (assumeM ins vals).take k ++ [if vals[k] then ins[k] else -ins[k]] := by
        rw [List.take_succ_eq_append_getElem hz]; simp [assumeM]
      have HSN := hid hsn
      clear hown hcb hbel hsn hcc1 hcc2 hz
      generalize ins[k] = x at *
      generalize hbv : vals[k] = bv at *
      have HBV := hid hbv; clear hbv
      cases bv
      · go_wp2_with (at_builtin; refine wpList_app _ rfl (.tmp 25) (.tmp 32) 23 rfl (w.heap.size + 1) 3 (.int .i64 0) 8 Tryd.underlying23 info_int rfl _ k _ rfl (HO.out.alloc _) (some ⟨wo.heap.size, 0, none⟩) 1 1 [.int .i64 (-x)] rfl rfl (RowR.one _ _ _) (by simp [Value.oneCell']) (by omega) (by unfold maxLen; omega) (by rw [World.size_alloc]; omega) ?_; intro v' w4 hown4 hg4 _; have HO4 := hid hown4; have HG4 := hid hg4; clear hown4 hg4)
        go_roundw
        case rel => exact ⟨k + 1, by omega, by go_num, by rw [HSN.out, List.map_append]; exact HO4.out, ((World.grownBy_alloc wo _ _).trans HG4.out).block w.heap.size (by omega) (fun e => by have := (HO.out.lt _ e.symm).1; omega) |>.trans HCB.out, below_one HBE.out (by omega) HG4.out (fun j hj => by have := (HO.out.lt _ hj).1; omega), by have := HG4.out.size; simp only [World.size_alloc] at this; omega⟩
        case measure => simp [intOf]; omega
      · go_wp2_with (at_builtin; refine wpList_app _ rfl (.tmp 17) (.tmp 23) 23 rfl (w.heap.size + 1) 3 (.int .i64 0) 8 Tryd.underlying23 info_int rfl _ k _ rfl (HO.out.alloc _) (some ⟨wo.heap.size, 0, none⟩) 1 1 [.int .i64 x] rfl rfl (RowR.one _ _ _) (by simp [Value.oneCell']) (by omega) (by unfold maxLen; omega) (by rw [World.size_alloc]; omega) ?_; intro v' w4 hown4 hg4 _; have HO4 := hid hown4; have HG4 := hid hg4; clear hown4 hg4)
        go_roundw
        case rel => exact ⟨k + 1, by omega, by go_num, by rw [HSN.out, List.map_append]; exact HO4.out, ((World.grownBy_alloc wo _ _).trans HG4.out).block w.heap.size (by omega) (fun e => by have := (HO.out.lt _ e.symm).1; omega) |>.trans HCB.out, below_one HBE.out (by omega) HG4.out (fun j hj => by have := (HO.out.lt _ hj).1; omega), by have := HG4.out.size; simp only [World.size_alloc] at this; omega⟩
        case measure => simp [intOf]; omega
    · obtain rfl : k = ins.length := by omega
      clear hown hcb hbel
      go_wp2
      go_ret
      refine ⟨_, rfl, ?_, HBE.out⟩
      have h1 := HO.out
      rw [List.take_of_length_le (by unfold assumeM; rw [List.length_map, List.length_zip]; omega)] at h1
      exact Sl.of_owns h1 (by omega) (fun j hj => ⟨by have := (h1.lt j hj).1; omega, (h1.lt j hj).2⟩)

theorem Good.in_ok {n : Nat} {σ : Nat → Bool} {F : Form} (h : Good n σ F) {i : Nat} (hi : i < n) : okLit F.vars ((i : Int) + 2) = true ∧ litT σ ((i : Int) + 2) = σ (i + 2) := by
  have := h.inp
  refine ⟨okLit_spec.2 ⟨by omega, by omega⟩, ?_⟩
  unfold litT
  rw [show ((i : Int) + 2).natAbs = i + 2 by omega]
  have : 0 < (i : Int) + 2 := by omega
  simp [this]

set_option maxHeartbeats 1600000 in
theorem pick_any (bb n : Nat) (σ : Nat → Bool) (F : Form) (vin vval : Value) (z : Int) (w : World) (hC : Circ w bb n σ F vin vval) (hz : -9223372036854775808 ≤ z ∧ z ≤ 9223372036854775807) :
    Calls Tryd.prog 48 #[.agg #[.pointer (some ⟨bb, 0, none⟩), vin, vval], .int .i64 z] w fun e w' =>
      ∃ lit b, e = .returned (.tuple #[.int .i64 lit, .bool b]) ∧ okLit F.vars lit = true ∧ litT σ lit = b ∧ Below w.heap.size w w' := by
  obtain ⟨pi, ci, rfl, hi1, hi2, _, hri⟩ := hC.inp.op
  obtain ⟨pv, cv, rfl, hv1, hv2, _, hrv⟩ := hC.val.op
  rw [insM_len, valsM_len] at *
  have hn := hC.n
  have hmod := fun w0 => mod_any z (2 * (n : Int) + 2) w0 hz (by omega)
  have hq0 : 0 ≤ z % (2 * (n : Int) + 2) := Int.emod_nonneg _ (by omega)
  have hq1 : z % (2 * (n : Int) + 2) < 2 * (n : Int) + 2 := Int.emod_lt_of_pos _ (by omega)
  generalize z % (2 * (n : Int) + 2) = q at *
  have HM := hid hmod
  have HG := hid hC.good
  have HV := hid hC.b.vars
  have hbel : Below w.heap.size w (w.alloc (.cells #[.pointer (some ⟨bb, 0, none⟩), .slice pi n ci, .slice pv n cv] 30)) := (Below.refl _ _).alloc (Nat.le_refl _) _
  have HBEL := hid hbel
  have hRi : ∀ k, Away bb w k → (fun j => j < w.heap.size) k ∧ (w.alloc (.cells #[.pointer (some ⟨bb, 0, none⟩), .slice pi n ci, .slice pv n cv] 30)).heap[k]? = w.heap[k]? := fun k hk => ⟨hk.size, hbel.block k hk.size⟩
  have hri' := hri.keep hRi
  have hrv' := hrv.keep hRi
  clear hmod hC hri hrv hRi hbel
  by_cases h2 : 2 ≤ q
  · obtain ⟨i, hi⟩ : ∃ i : Nat, q / 2 - 1 = (i : Int) := ⟨(q / 2 - 1).toNat, by omega⟩
    have hin : i < n := by omega
    obtain ⟨b1, o1, rfl, hR1, hcc1⟩ := hri'.atI i (by rw [insM_len]; exact hin)
    obtain ⟨b2, o2, rfl, hR2, hcc2⟩ := hrv'.atB i (by rw [valsM_len]; exact hin)
    have d1 := hcc1 i (by rw [insM_len]; exact hin)
    have d2 := hcc2 i (by rw [valsM_len]; exact hin)
    have e1 : (insM n)[i]'(by rw [insM_len]; exact hin) = (i : Int) + 2 := by simp [insM]
    have e2 : (valsM n σ)[i]'(by rw [valsM_len]; exact hin) = σ (i + 2) := by simp [valsM]
    rw [e1] at d1
    rw [e2] at d2
    have hit : (q / 2).toNat - 1 = i := by omega
    have hi0 : 0 ≤ q / 2 - 1 := by omega
    have hi1' : q / 2 - 1 < (n : Int) := by omega
    obtain ⟨hok, hlt⟩ := HG.out.in_ok hin
    generalize (i : Int) + 2 = xi at d1 hok hlt
    generalize σ (i + 2) = bv at d2 hlt
    rw [← hit] at d1 d2
    have hbd := Bd.lit HV.out hok
    unfold Bd at hbd
    have HOK := hid hok; have HLT := hid hlt
    clear hcc1 hcc2 e1 e2 hri' hrv' hok hlt hi hit
    have s1 : q.tdiv 2 = q / 2 := Int.tdiv_eq_ediv_of_nonneg hq0
    have s2 : IntKind.i64.wrap (q / 2) = q / 2 := IntWalk.i64_in _ (by omega)
    have s3 : IntKind.i64.wrap (q / 2 - 1) = q / 2 - 1 := IntWalk.i64_in _ (by omega)
    by_cases h1 : q % 2 = 1
    · have hd : (q % 2 == 1) = true := by simp [h1]
      clear h1
      go_enter Tryd.func48, Tryd.ntmps48
      go_wp2_with (first
        | (go_at_call 16; refine (HM.out _).mono ?_; rintro e w1 ⟨rfl, rfl⟩)
        | (go_at_call 18; refine (true_any _ _).mono ?_; rintro e w' ⟨rfl, rfl⟩))
      go_quiet (fail)
      go_wp2
      go_ret2
      exact ⟨_, _, rfl, ok_neg HOK.out, by rw [litT_neg _ (lit_ne HOK.out), HLT.out], below_drewN HBEL.out _⟩
    · have hd : (q % 2 == 1) = false := by simp [h1]
      clear h1
      go_enter Tryd.func48, Tryd.ntmps48
      go_wp2_with (first
        | (go_at_call 16; refine (HM.out _).mono ?_; rintro e w1 ⟨rfl, rfl⟩)
        | (go_at_call 18; refine (true_any _ _).mono ?_; rintro e w' ⟨rfl, rfl⟩))
      go_quiet (fail)
      go_wp2
      go_ret2
      exact ⟨_, _, rfl, HOK.out, HLT.out, below_drewN HBEL.out _⟩
  · have hq2 : q < 2 := by omega
    by_cases h1 : q % 2 = 1
    · have hd : (q % 2 == 1) = true := by simp [h1]
      clear h1 h2 hri' hrv'
      go_enter Tryd.func48, Tryd.ntmps48
      go_wp2_with (first
        | (go_at_call 16; refine (HM.out _).mono ?_; rintro e w1 ⟨rfl, rfl⟩)
        | (go_at_call 18; refine (true_any _ _).mono ?_; rintro e w' ⟨rfl, rfl⟩))
      go_ret2
      exact ⟨_, _, rfl, ok_neg HG.out.ok1, HG.out.tm1, HBEL.out⟩
    · have hd : (q % 2 == 1) = false := by simp [h1]
      clear h1 h2 hri' hrv'
      go_enter Tryd.func48, Tryd.ntmps48
      go_wp2_with (first
        | (go_at_call 16; refine (HM.out _).mono ?_; rintro e w1 ⟨rfl, rfl⟩)
        | (go_at_call 18; refine (true_any _ _).mono ?_; rintro e w' ⟨rfl, rfl⟩))
      go_ret2
      exact ⟨_, _, rfl, HG.out.ok1, HG.out.t1, HBEL.out⟩

end Go.Proofs.YtjcnhnifageikaaDoor
