/-
 The form of an instruction: prog.formed.
-/
import Derived.Test.YtoofbgoeipijcaaDoorUB9
import Derived.Deep.DeepCutAuto
namespace Go.Proofs.YtoofbgoeipijcaaDoor
set_option linter.unusedSimpArgs false
set_option linter.unusedVariables false
open Go.RowKit Go.Shelf
attribute [local go_sem] Oper.semAt_some

theorem two_after {w w' : World} {t : TypeId} {a b : Value} (h : Below (w.alloc (.cells #[a, b] t)).heap.size (w.alloc (.cells #[a, b] t)) w') : w'.cell? ⟨w.heap.size, 1, none⟩ = some b := by
 have hc : (w.alloc (.cells #[a, b] t)).cell? ⟨w.heap.size, 1, none⟩ = some b := by rw [cell_al]; simp
 exact (h.cell (p := ⟨_, _, none⟩) (cell_size hc)).trans hc
def FormPost (x : In) (w : World) (e : Ending) (w' : World) : Prop := e = .returned (.bool (formB x)) ∧ Below w.heap.size w w'
theorem named_ne {s : Bs} (h : namedB s = true) : ¬ s = [] := by rintro rfl; exact absurd h (by decide)
set_option maxRecDepth 100000 in
set_option maxHeartbeats 4000000 in
theorem formed_any (x : In) (pa : Option Addr) (ca B : Nat) (w : World) (hE : PrB B w) (ha : SlG kAg (· < w.heap.size) w (.slice pa x.args.length ca) x.args) (hk : x.kind ≤ 255) (ho : x.op ≤ 255) :
  Calls Tryd.prog 84 #[.agg #[.int .u8 (x.kind : Int), .int .u8 (x.op : Int), .string ⟨x.dst.toArray⟩, .string ⟨x.nm.toArray⟩, .slice pa x.args.length ca, .int .i64 x.pos.1, .int .i64 x.pos.2]] w (FormPost x w) := by
 by_cases h13 : 13 ≤ x.kind
 ·have HM := hid (show formB x = false from by unfold formB; rw [decide_eq_false (by omega : ¬ x.kind < 13)]; simp)
  have g1 : decide (13 ≤ (x.kind : Int)) = true := by simp; omega
  clear h13 hE ha ho
  go_enter Tryd.func84, Tryd.ntmps84
  go_wp2
  go_ret
  exact ⟨by rw [HM.out]; rfl, (Below.refl _ _).alloc (Nat.le_refl _) _⟩
 have g1 : decide (13 ≤ (x.kind : Int)) = false := by simp; omega
 have hE0 := hE.e.form x.kind (by omega)
 obtain ⟨f0, f1, f2⟩ := hE0
 rw [Nat.mul_comm 3] at f0 f1 f2
 have hlt := cell_size f0
 obtain ⟨fd, hfd⟩ : ∃ b, (fieldsL.getD x.kind (false, false, 0)).1 = b := ⟨_, rfl⟩
 obtain ⟨fn, hfn⟩ : ∃ b, (fieldsL.getD x.kind (false, false, 0)).2.1 = b := ⟨_, rfl⟩
 obtain ⟨w2, hw2⟩ : ∃ b, (fieldsL.getD x.kind (false, false, 0)).2.2 = b := ⟨_, rfl⟩
 rw [hfd] at f0; rw [hfn] at f1; rw [hw2] at f2
 have hne : ¬ 3 = w.heap.size := by omega
 have hk13 : (x.kind : Int) < 13 := by omega
 have HMF := hid (show formB x = (opOkB x && (fieldB fd x.dst && fieldB fn x.nm) && ((decide (wantM x < 0) || decide ((x.args.length : Int) = wantM x)) && decide (x.args.length ≤ 32)) && x.args.all argB) from by
  unfold formB; rw [hfd, hfn, decide_eq_true (by omega : x.kind < 13)]; simp only [Bool.true_and, Bool.and_assoc])
 have HWM := hid (show wantM x = if x.kind = 1 then (arityM x.op : Int) else w2 from by unfold wantM; rw [hw2])
 have HOK := hid (show opOkB x = if x.kind = 1 then decide (2 ≤ x.op) && decide (x.op ≤ 20) else decide (x.op = 0) from rfl)
 have HE := hid hE; have HA := hid ha; have HK := hid hk; have HO := hid ho; have H13 := hid h13
 clear hE ha hfd hfn hw2 hk ho h13
 go_enter Tryd.func84, Tryd.ntmps84
 go_upto_if 19 with fail
 obtain ⟨wb, hwb⟩ : ∃ W, (w.alloc (.cells #[.int .u8 (x.kind : Int), .int .u8 (x.op : Int), .string ⟨x.dst.toArray⟩, .string ⟨x.nm.toArray⟩, .slice pa x.args.length ca, .int .i64 x.pos.1, .int .i64 x.pos.2] 26)).alloc (.cells #[.bool fd, .bool fn, .int .i64 w2] 147) = W := ⟨_, rfl⟩
 have hb1 : BxL 26 w.heap.size (inL x (.slice pa x.args.length ca)) wb := by rw [← hwb]; exact (BxL.new _ w _).al _
 have hb3 : BxL 147 (w.heap.size + 1) [.bool fd, .bool fn, .int .i64 w2] wb := by
  have := BxL.new 147 (w.alloc (.cells #[.int .u8 (x.kind : Int), .int .u8 (x.op : Int), .string ⟨x.dst.toArray⟩, .string ⟨x.nm.toArray⟩, .slice pa x.args.length ca, .int .i64 x.pos.1, .int .i64 x.pos.2] 26)) [.bool fd, .bool fn, .int .i64 w2]
  rw [World.size_alloc, hwb] at this; exact this
 have hbw : Below w.heap.size w wb := by rw [← hwb]; exact ((Below.refl _ _).alloc (Nat.le_refl _) _).alloc (by rw [World.size_alloc]; omega) _
 have hsz : wb.heap.size = w.heap.size + 2 := by rw [← hwb, World.size_alloc, World.size_alloc]
 rw [hwb]
 clear hwb f0 f1 f2
 have HB1 := hid hb1; have HB3 := hid hb3; have HBW := hid hbw
 go_cut [4] (fun s4 wx => s4 = .int .i64 (wantM x) ∧ opOkB x = true ∧ BxL 26 w.heap.size (inL x (.slice pa x.args.length ca)) wx ∧ BxL 147 (w.heap.size + 1) [.bool fd, .bool fn, .int .i64 w2] wx ∧ Below w.heap.size w wx)
 case first =>
  have c1 : wb.cell? ⟨w.heap.size, 1, none⟩ = some (.int .u8 (x.op : Int)) := hb1.at 1 rfl
  clear hb1 hb3 hbw
  by_cases h1 : x.kind = 1
  ·have t1 : ((x.kind : Int) == 1) = true := by rw [h1]; rfl
   have HWM1 := hid (show wantM x = (arityM x.op : Int) from by rw [HWM.out, if_pos h1])
   have HOK1 := hid (show opOkB x = (decide (2 ≤ x.op) && decide (x.op ≤ 20)) from by rw [HOK.out, if_pos h1])
   clear h1
   rcases (show x.op < 2 ∨ (2 ≤ x.op ∧ 20 < x.op) ∨ (2 ≤ x.op ∧ x.op ≤ 20) by omega) with h | ⟨h, h'⟩ | ⟨h, h'⟩
   ·have t2 : decide ((x.op : Int) < 2) = true := by simp; omega
    have HM := hid (show formB x = false from by rw [HMF.out, HOK1.out, decide_eq_false (by omega : ¬ 2 ≤ x.op)]; simp)
    clear h
    go_wp2
    go_ret
    exact ⟨by rw [HM.out]; rfl, HBW.out⟩
   ·have t2 : decide ((x.op : Int) < 2) = false := by simp; omega
    have t3 : decide (20 < (x.op : Int)) = true := by simp; omega
    have HM := hid (show formB x = false from by rw [HMF.out, HOK1.out, decide_eq_false (by omega : ¬ x.op ≤ 20)]; simp)
    clear h h'
    go_wp2
    go_ret
    exact ⟨by rw [HM.out]; rfl, HBW.out⟩
   ·have t2 : decide ((x.op : Int) < 2) = false := by simp; omega
    have t3 : decide (20 < (x.op : Int)) = false := by simp; omega
    have HM := hid (show opOkB x = true from by rw [HOK1.out, decide_eq_true h, decide_eq_true h']; rfl)
    have HH := hid h'
    clear h h'
    go_wp2_with (go_at_call 105; with_reducible refine (arity_any x.op (by have := HH.out; omega) _).mono ?_; rintro e wy ⟨rfl, hby⟩)
    go_meet
    case rel => exact ⟨by rw [HWM1.out], HM.out, HB1.out.bel hby, HB3.out.bel hby, HBW.out.trans (hby.mono HBW.out.size)⟩
  ·have t1 : ((x.kind : Int) == 1) = false := by simp; omega
   have HWM1 := hid (show wantM x = w2 from by rw [HWM.out, if_neg h1])
   have HOK1 := hid (show opOkB x = decide (x.op = 0) from by rw [HOK.out, if_neg h1])
   clear h1
   by_cases h : x.op = 0
   ·have t2 : ((x.op : Int) != 0) = false := by rw [h]; rfl
    have HM := hid (show opOkB x = true from by rw [HOK1.out, decide_eq_true h])
    clear h
    go_wp2
    go_meet
    case rel => exact ⟨by rw [HWM1.out], HM.out, HB1.out, HB3.out, HBW.out⟩
   ·have t2 : ((x.op : Int) != 0) = true := by simp; omega
    have HM := hid (show formB x = false from by rw [HMF.out, HOK1.out, decide_eq_false h]; simp)
    clear h
    go_wp2
    go_ret
    exact ⟨by rw [HM.out]; rfl, HBW.out⟩
 case rest =>
 obtain ⟨rfl, hok, hb1', hb3', hbw'⟩ := hcut
 clear hb1 hb3 hbw hsz HB1 HB3 HBW
 have HOKT := hid hok; have HB1 := hid hb1'; have HB3 := hid hb3'; have HBW := hid hbw'
 clear hok hb1' hb3' hbw'
 go_upto_region 11 with fail
 go_cut [70] (fun s70 wx => s70 = .bool (!(fieldB fd x.dst && fieldB fn x.nm)) ∧ BxL 26 w.heap.size (inL x (.slice pa x.args.length ca)) wx ∧ Below w.heap.size w wx)
 case first =>
  obtain ⟨d, hd⟩ : ∃ d, x.dst = d := ⟨_, rfl⟩
  obtain ⟨n, hn⟩ : ∃ d, x.nm = d := ⟨_, rfl⟩
  have hS : (fun W => W.cell? ⟨w.heap.size, 2, none⟩ = some (.string ⟨d.toArray⟩) ∧ W.cell? ⟨w.heap.size, 3, none⟩ = some (.string ⟨n.toArray⟩) ∧ W.cell? ⟨w.heap.size + 1, 0, none⟩ = some (.bool fd) ∧ W.cell? ⟨w.heap.size + 1, 1, none⟩ = some (.bool fn)) wc.drew := ⟨by rw [← hd]; exact HB1.out.at 2 rfl, by rw [← hn]; exact HB1.out.at 3 rfl, HB3.out.at 0 rfl, HB3.out.at 1 rfl⟩
  have HD := hid hd; have HN := hid hn
  clear hd hn
  have HND := hid (fun W hW => named_any d W hW)
  have HNN := hid (fun W hW => named_any n W hW)
  cases fd with
  | true =>
   cases hdv : namedB d with
   | true =>
    have HDV := hid hdv; clear hdv
    cases fn with
    | true =>
     cases hnv : namedB n with
     | true =>
      have HNV := hid hnv; clear hnv
      have hFa : ∀ f, Fence.wide.fn f := fun _ => trivial
      refine (wpIn_wide (n := 9)).1 ?_
      refine wpIn_onlyN ?_
      refine wpIn_region_HJ (fun W => W.cell? ⟨w.heap.size, 2, none⟩ = some (.string ⟨d.toArray⟩) ∧ W.cell? ⟨w.heap.size, 3, none⟩ = some (.string ⟨n.toArray⟩) ∧ W.cell? ⟨w.heap.size + 1, 0, none⟩ = some (.bool true) ∧ W.cell? ⟨w.heap.size + 1, 1, none⟩ = some (.bool true)) 34 (by kernel_rfl) ?_
      simp only [List.size_toArray, List.length_cons, List.length_nil, Nat.reduceAdd]
      refine wpHJ_take (v := ?vr1_0) 0 hFa rfl (by kernel_rfl) (fun _ _ _ h => h.elim) (Or.inl ⟨by rfl, ?yr1_0⟩) hS ?rr1_0
      case yr1_0 => (intro w' hS'; obtain ⟨s0, s1, s2, s3⟩ := hS'; go_simp; try rfl)
      simp only [Act.put, actP]
      refine wpHJ_take (v := ?vr1_1) 1 hFa rfl (by kernel_rfl) (fun _ _ _ h => h.elim) (Or.inl ⟨by rfl, ?yr1_1⟩) hS ?rr1_1
      case yr1_1 => (intro w' hS'; obtain ⟨s0, s1, s2, s3⟩ := hS'; go_simp; try rfl)
      simp only [Act.put, actP]
      refine wpHJ_take (v := ?vr1_2) 2 hFa rfl (by kernel_rfl) (fun _ _ _ h => h.elim) (Or.inl ⟨by rfl, ?yr1_2⟩) hS ?rr1_2
      case yr1_2 => (intro w' hS'; obtain ⟨s0, s1, s2, s3⟩ := hS'; go_simp; try rfl)
      simp only [Act.put, actP]
      refine wpHJ_take (v := ?vr1_3) 3 hFa rfl (by kernel_rfl) (fun _ _ _ h => h.elim) (Or.inl ⟨by rfl, ?yr1_3⟩) hS ?rr1_3
      case yr1_3 => (intro w' hS'; obtain ⟨s0, s1, s2, s3⟩ := hS'; go_simp; try rfl)
      simp only [Act.put, actP]
      refine wpHJ_only 4 (by kernel_rfl) rfl ?_
      intro K hK
      go_simp
      (with_reducible refine (callsIn_wide.2 (HND.out _ (HE.out.step ((HBW.out.drew).mono HE.out.size)).e)).mono ?_)
      rintro e wd ⟨rfl, hbd⟩
      rw [HDV.out]
      have hSd : (fun W => W.cell? ⟨w.heap.size, 2, none⟩ = some (.string ⟨d.toArray⟩) ∧ W.cell? ⟨w.heap.size, 3, none⟩ = some (.string ⟨n.toArray⟩) ∧ W.cell? ⟨w.heap.size + 1, 0, none⟩ = some (.bool true) ∧ W.cell? ⟨w.heap.size + 1, 1, none⟩ = some (.bool true)) wd := ⟨(hbd.cell (p := ⟨_, _, none⟩) (cell_size hS.1)).trans hS.1, (hbd.cell (p := ⟨_, _, none⟩) (cell_size hS.2.1)).trans hS.2.1, (hbd.cell (p := ⟨_, _, none⟩) (cell_size hS.2.2.1)).trans hS.2.2.1, (hbd.cell (p := ⟨_, _, none⟩) (cell_size hS.2.2.2)).trans hS.2.2.2⟩
      have HBD := hid (HBW.out.drew.trans (hbd.mono HBW.out.size))
      have HB1D := hid ((show BxL 26 w.heap.size (inL x (.slice pa x.args.length ca)) wc.drew from HB1.out).bel hbd)
      clear hbd hS
      refine hK _ _ (.inr (.inr hSd)) ?_
      clear hK K
      refine wpHJ_take (v := ?vr1_5) 5 hFa rfl (by kernel_rfl) (fun _ _ _ h => h.elim) (Or.inl ⟨by rfl, ?yr1_5⟩) hSd ?rr1_5
      case yr1_5 => (intro w' hS'; obtain ⟨s0, s1, s2, s3⟩ := hS'; go_simp; try rfl)
      simp only [Act.put, actP]
      refine wpHJ_take (v := ?vr1_6) 6 hFa rfl (by kernel_rfl) (fun _ _ _ h => h.elim) (Or.inl ⟨by rfl, ?yr1_6⟩) hSd ?rr1_6
      case yr1_6 => (intro w' hS'; obtain ⟨s0, s1, s2, s3⟩ := hS'; go_simp; try rfl)
      simp only [Act.put, actP]
      refine wpHJ_take (v := ?vr1_7) 7 hFa rfl (by kernel_rfl) (fun _ _ _ h => h.elim) (Or.inl ⟨by first | (simp [Region.wanted, yielded]; done) | (simp [Region.wanted, yielded, undef]; done), ?yr1_7⟩) hSd ?rr1_7
      case yr1_7 => (intro w' hS'; obtain ⟨s0, s1, s2, s3⟩ := hS'; go_simp; try rfl)
      simp only [Act.put, actP]
      refine wpHJ_take (v := ?vr1_8) 8 hFa rfl (by kernel_rfl) (fun _ _ _ h => h.elim) (Or.inl ⟨by first | (simp [Region.wanted, yielded]; done) | (simp [Region.wanted, yielded, undef]; done), ?yr1_8⟩) hSd ?rr1_8
      case yr1_8 => (intro w' hS'; obtain ⟨s0, s1, s2, s3⟩ := hS'; go_simp; try rfl)
      simp only [Act.put, actP]
      refine wpHJ_take (v := ?vr1_9) 9 hFa rfl (by kernel_rfl) (fun _ _ _ h => h.elim) (Or.inl ⟨by first | (simp [Region.wanted, yielded]; done) | (simp [Region.wanted, yielded, undef]; done), ?yr1_9⟩) hSd ?rr1_9
      case yr1_9 => (intro w' hS'; obtain ⟨s0, s1, s2, s3⟩ := hS'; go_simp; try rfl)
      simp only [Act.put, actP]
      refine wpHJ_take (v := ?vr1_10) 10 hFa rfl (by kernel_rfl) (fun _ _ _ h => h.elim) (Or.inl ⟨by first | (simp [Region.wanted, yielded]; done) | (simp [Region.wanted, yielded, undef]; done), ?yr1_10⟩) hSd ?rr1_10
      case yr1_10 => (intro w' hS'; obtain ⟨s0, s1, s2, s3⟩ := hS'; go_simp; try rfl)
      simp only [Act.put, actP]
      refine wpHJ_take (v := undef) 11 hFa rfl (by kernel_rfl) (fun _ _ _ h => h.elim) (Or.inr ⟨by first | (simp [Region.wanted, yielded]; done) | (simp [Region.wanted, yielded, undef]; done), rfl⟩) hSd ?rr1_11
      simp only [Act.put, actP]
      refine wpHJ_take (v := undef) 12 hFa rfl (by kernel_rfl) (fun _ _ _ h => h.elim) (Or.inr ⟨by first | (simp [Region.wanted, yielded]; done) | (simp [Region.wanted, yielded, undef]; done), rfl⟩) hSd ?rr1_12
      simp only [Act.put, actP]
      refine wpHJ_take (v := undef) 13 hFa rfl (by kernel_rfl) (fun _ _ _ h => h.elim) (Or.inr ⟨by first | (simp [Region.wanted, yielded]; done) | (simp [Region.wanted, yielded, undef]; done), rfl⟩) hSd ?rr1_13
      simp only [Act.put, actP]
      refine wpHJ_take (v := ?vr1_14) 14 hFa rfl (by kernel_rfl) (fun _ _ _ h => h.elim) (Or.inl ⟨by first | (simp [Region.wanted, yielded]; done) | (simp [Region.wanted, yielded, undef]; done), ?yr1_14⟩) hSd ?rr1_14
      case yr1_14 => (intro w' hS'; obtain ⟨s0, s1, s2, s3⟩ := hS'; go_simp; try rfl)
      simp only [Act.put, actP]
      refine wpHJ_take (v := ?vr1_15) 15 hFa rfl (by kernel_rfl) (fun _ _ _ h => h.elim) (Or.inl ⟨by rfl, ?yr1_15⟩) hSd ?rr1_15
      case yr1_15 => (intro w' hS'; obtain ⟨s0, s1, s2, s3⟩ := hS'; go_simp; try rfl)
      simp only [Act.put, actP]
      refine wpHJ_take (v := ?vr1_16) 16 hFa rfl (by kernel_rfl) (fun _ _ _ h => h.elim) (Or.inl ⟨by rfl, ?yr1_16⟩) hSd ?rr1_16
      case yr1_16 => (intro w' hS'; obtain ⟨s0, s1, s2, s3⟩ := hS'; go_simp; try rfl)
      simp only [Act.put, actP]
      refine wpHJ_take (v := ?vr1_17) 17 hFa rfl (by kernel_rfl) (fun _ _ _ h => h.elim) (Or.inl ⟨by first | (simp [Region.wanted, yielded]; done) | (simp [Region.wanted, yielded, undef]; done), ?yr1_17⟩) hSd ?rr1_17
      case yr1_17 => (intro w' hS'; obtain ⟨s0, s1, s2, s3⟩ := hS'; go_simp; try rfl)
      simp only [Act.put, actP]
      refine wpHJ_take (v := ?vr1_18) 18 hFa rfl (by kernel_rfl) (fun _ _ _ h => h.elim) (Or.inl ⟨by first | (simp [Region.wanted, yielded]; done) | (simp [Region.wanted, yielded, undef]; done), ?yr1_18⟩) hSd ?rr1_18
      case yr1_18 => (intro w' hS'; obtain ⟨s0, s1, s2, s3⟩ := hS'; go_simp; try rfl)
      simp only [Act.put, actP]
      refine wpHJ_take (v := ?vr1_19) 19 hFa rfl (by kernel_rfl) (fun _ _ _ h => h.elim) (Or.inl ⟨by first | (simp [Region.wanted, yielded]; done) | (simp [Region.wanted, yielded, undef]; done), ?yr1_19⟩) hSd ?rr1_19
      case yr1_19 => (intro w' hS'; obtain ⟨s0, s1, s2, s3⟩ := hS'; go_simp; try rfl)
      simp only [Act.put, actP]
      refine wpHJ_take (v := ?vr1_20) 20 hFa rfl (by kernel_rfl) (fun _ _ _ h => h.elim) (Or.inl ⟨by first | (simp [Region.wanted, yielded]; done) | (simp [Region.wanted, yielded, undef]; done), ?yr1_20⟩) hSd ?rr1_20
      case yr1_20 => (intro w' hS'; obtain ⟨s0, s1, s2, s3⟩ := hS'; go_simp; try rfl)
      simp only [Act.put, actP]
      refine wpHJ_only 21 (by kernel_rfl) rfl ?_
      intro K hK
      rw [if_pos (by first | (simp [Region.wanted, yielded]; done) | (simp [Region.wanted, yielded, undef]; done))]
      go_simp
      (with_reducible refine (callsIn_wide.2 (HNN.out _ (HE.out.step (HBD.out.mono HE.out.size)).e)).mono ?_)
      rintro e wn ⟨rfl, hbn⟩
      rw [HNV.out]
      have hSn : (fun W => W.cell? ⟨w.heap.size, 2, none⟩ = some (.string ⟨d.toArray⟩) ∧ W.cell? ⟨w.heap.size, 3, none⟩ = some (.string ⟨n.toArray⟩) ∧ W.cell? ⟨w.heap.size + 1, 0, none⟩ = some (.bool true) ∧ W.cell? ⟨w.heap.size + 1, 1, none⟩ = some (.bool true)) wn := ⟨(hbn.cell (p := ⟨_, _, none⟩) (cell_size hSd.1)).trans hSd.1, (hbn.cell (p := ⟨_, _, none⟩) (cell_size hSd.2.1)).trans hSd.2.1, (hbn.cell (p := ⟨_, _, none⟩) (cell_size hSd.2.2.1)).trans hSd.2.2.1, (hbn.cell (p := ⟨_, _, none⟩) (cell_size hSd.2.2.2)).trans hSd.2.2.2⟩
      have HBN := hid (HBD.out.trans (hbn.mono HBD.out.size))
      have HB1N := hid (HB1D.out.bel hbn)
      clear hbn hSd
      refine hK _ _ (.inr (.inr hSn)) ?_
      clear hK K
      refine wpHJ_take (v := ?vr1_22) 22 hFa rfl (by kernel_rfl) (fun _ _ _ h => h.elim) (Or.inl ⟨by first | (simp [Region.wanted, yielded]; done) | (simp [Region.wanted, yielded, undef]; done), ?yr1_22⟩) hSn ?rr1_22
      case yr1_22 => (intro w' hS'; obtain ⟨s0, s1, s2, s3⟩ := hS'; go_simp; try rfl)
      simp only [Act.put, actP]
      refine wpHJ_take (v := ?vr1_23) 23 hFa rfl (by kernel_rfl) (fun _ _ _ h => h.elim) (Or.inl ⟨by rfl, ?yr1_23⟩) hSn ?rr1_23
      case yr1_23 => (intro w' hS'; obtain ⟨s0, s1, s2, s3⟩ := hS'; go_simp; try rfl)
      simp only [Act.put, actP]
      refine wpHJ_take (v := ?vr1_24) 24 hFa rfl (by kernel_rfl) (fun _ _ _ h => h.elim) (Or.inl ⟨by rfl, ?yr1_24⟩) hSn ?rr1_24
      case yr1_24 => (intro w' hS'; obtain ⟨s0, s1, s2, s3⟩ := hS'; go_simp; try rfl)
      simp only [Act.put, actP]
      refine wpHJ_take (v := ?vr1_25) 25 hFa rfl (by kernel_rfl) (fun _ _ _ h => h.elim) (Or.inl ⟨by first | (simp [Region.wanted, yielded]; done) | (simp [Region.wanted, yielded, undef]; done), ?yr1_25⟩) hSn ?rr1_25
      case yr1_25 => (intro w' hS'; obtain ⟨s0, s1, s2, s3⟩ := hS'; go_simp; try rfl)
      simp only [Act.put, actP]
      refine wpHJ_take (v := ?vr1_26) 26 hFa rfl (by kernel_rfl) (fun _ _ _ h => h.elim) (Or.inl ⟨by first | (simp [Region.wanted, yielded]; done) | (simp [Region.wanted, yielded, undef]; done), ?yr1_26⟩) hSn ?rr1_26
      case yr1_26 => (intro w' hS'; obtain ⟨s0, s1, s2, s3⟩ := hS'; go_simp; try rfl)
      simp only [Act.put, actP]
      refine wpHJ_take (v := ?vr1_27) 27 hFa rfl (by kernel_rfl) (fun _ _ _ h => h.elim) (Or.inl ⟨by first | (simp [Region.wanted, yielded]; done) | (simp [Region.wanted, yielded, undef]; done), ?yr1_27⟩) hSn ?rr1_27
      case yr1_27 => (intro w' hS'; obtain ⟨s0, s1, s2, s3⟩ := hS'; go_simp; try rfl)
      simp only [Act.put, actP]
      refine wpHJ_take (v := ?vr1_28) 28 hFa rfl (by kernel_rfl) (fun _ _ _ h => h.elim) (Or.inl ⟨by first | (simp [Region.wanted, yielded]; done) | (simp [Region.wanted, yielded, undef]; done), ?yr1_28⟩) hSn ?rr1_28
      case yr1_28 => (intro w' hS'; obtain ⟨s0, s1, s2, s3⟩ := hS'; go_simp; try rfl)
      simp only [Act.put, actP]
      refine wpHJ_take (v := undef) 29 hFa rfl (by kernel_rfl) (fun _ _ _ h => h.elim) (Or.inr ⟨by first | (simp [Region.wanted, yielded]; done) | (simp [Region.wanted, yielded, undef]; done), rfl⟩) hSn ?rr1_29
      simp only [Act.put, actP]
      refine wpHJ_take (v := undef) 30 hFa rfl (by kernel_rfl) (fun _ _ _ h => h.elim) (Or.inr ⟨by first | (simp [Region.wanted, yielded]; done) | (simp [Region.wanted, yielded, undef]; done), rfl⟩) hSn ?rr1_30
      simp only [Act.put, actP]
      refine wpHJ_take (v := undef) 31 hFa rfl (by kernel_rfl) (fun _ _ _ h => h.elim) (Or.inr ⟨by first | (simp [Region.wanted, yielded]; done) | (simp [Region.wanted, yielded, undef]; done), rfl⟩) hSn ?rr1_31
      simp only [Act.put, actP]
      refine wpHJ_take (v := ?vr1_32) 32 hFa rfl (by kernel_rfl) (fun _ _ _ h => h.elim) (Or.inl ⟨by first | (simp [Region.wanted, yielded]; done) | (simp [Region.wanted, yielded, undef]; done), ?yr1_32⟩) hSn ?rr1_32
      case yr1_32 => (intro w' hS'; obtain ⟨s0, s1, s2, s3⟩ := hS'; go_simp; try rfl)
      simp only [Act.put, actP]
      refine wpHJ_only 33 (by kernel_rfl) rfl ?_
      intro K hK
      go_simp
      refine hK _ _ (.inr (.inr hSn)) ?_
      clear hK K
      refine wpHJ_done (by kernel_rfl) ?_ _
      simp only [onlyN, Exit.then]
      clear hFa
      go_wp2_with fail
      go_meet
      case rel => exact ⟨by rw [HD.out, HN.out]; first | rfl | (simp [fieldB, HDV.out, HNV.out]; done) | (simp [fieldB, HDV.out, HNV.out, HNE.out]; done) | (simp [fieldB, HDV.out, HNV.out, HDE.out]; done) | (simp [fieldB, HDV.out, HNV.out, named_ne HNV.out]; done) | (simp [fieldB, HDV.out, HNV.out, named_ne HDV.out]; done), HB1N.out, HBN.out⟩
     | false =>
      have HNV := hid hnv; clear hnv
      have hFa : ∀ f, Fence.wide.fn f := fun _ => trivial
      refine (wpIn_wide (n := 9)).1 ?_
      refine wpIn_onlyN ?_
      refine wpIn_region_HJ (fun W => W.cell? ⟨w.heap.size, 2, none⟩ = some (.string ⟨d.toArray⟩) ∧ W.cell? ⟨w.heap.size, 3, none⟩ = some (.string ⟨n.toArray⟩) ∧ W.cell? ⟨w.heap.size + 1, 0, none⟩ = some (.bool true) ∧ W.cell? ⟨w.heap.size + 1, 1, none⟩ = some (.bool true)) 34 (by kernel_rfl) ?_
      simp only [List.size_toArray, List.length_cons, List.length_nil, Nat.reduceAdd]
      refine wpHJ_take (v := ?vr2_0) 0 hFa rfl (by kernel_rfl) (fun _ _ _ h => h.elim) (Or.inl ⟨by rfl, ?yr2_0⟩) hS ?rr2_0
      case yr2_0 => (intro w' hS'; obtain ⟨s0, s1, s2, s3⟩ := hS'; go_simp; try rfl)
      simp only [Act.put, actP]
      refine wpHJ_take (v := ?vr2_1) 1 hFa rfl (by kernel_rfl) (fun _ _ _ h => h.elim) (Or.inl ⟨by rfl, ?yr2_1⟩) hS ?rr2_1
      case yr2_1 => (intro w' hS'; obtain ⟨s0, s1, s2, s3⟩ := hS'; go_simp; try rfl)
      simp only [Act.put, actP]
      refine wpHJ_take (v := ?vr2_2) 2 hFa rfl (by kernel_rfl) (fun _ _ _ h => h.elim) (Or.inl ⟨by rfl, ?yr2_2⟩) hS ?rr2_2
      case yr2_2 => (intro w' hS'; obtain ⟨s0, s1, s2, s3⟩ := hS'; go_simp; try rfl)
      simp only [Act.put, actP]
      refine wpHJ_take (v := ?vr2_3) 3 hFa rfl (by kernel_rfl) (fun _ _ _ h => h.elim) (Or.inl ⟨by rfl, ?yr2_3⟩) hS ?rr2_3
      case yr2_3 => (intro w' hS'; obtain ⟨s0, s1, s2, s3⟩ := hS'; go_simp; try rfl)
      simp only [Act.put, actP]
      refine wpHJ_only 4 (by kernel_rfl) rfl ?_
      intro K hK
      go_simp
      (with_reducible refine (callsIn_wide.2 (HND.out _ (HE.out.step ((HBW.out.drew).mono HE.out.size)).e)).mono ?_)
      rintro e wd ⟨rfl, hbd⟩
      rw [HDV.out]
      have hSd : (fun W => W.cell? ⟨w.heap.size, 2, none⟩ = some (.string ⟨d.toArray⟩) ∧ W.cell? ⟨w.heap.size, 3, none⟩ = some (.string ⟨n.toArray⟩) ∧ W.cell? ⟨w.heap.size + 1, 0, none⟩ = some (.bool true) ∧ W.cell? ⟨w.heap.size + 1, 1, none⟩ = some (.bool true)) wd := ⟨(hbd.cell (p := ⟨_, _, none⟩) (cell_size hS.1)).trans hS.1, (hbd.cell (p := ⟨_, _, none⟩) (cell_size hS.2.1)).trans hS.2.1, (hbd.cell (p := ⟨_, _, none⟩) (cell_size hS.2.2.1)).trans hS.2.2.1, (hbd.cell (p := ⟨_, _, none⟩) (cell_size hS.2.2.2)).trans hS.2.2.2⟩
      have HBD := hid (HBW.out.drew.trans (hbd.mono HBW.out.size))
      have HB1D := hid ((show BxL 26 w.heap.size (inL x (.slice pa x.args.length ca)) wc.drew from HB1.out).bel hbd)
      clear hbd hS
      refine hK _ _ (.inr (.inr hSd)) ?_
      clear hK K
      refine wpHJ_take (v := ?vr2_5) 5 hFa rfl (by kernel_rfl) (fun _ _ _ h => h.elim) (Or.inl ⟨by rfl, ?yr2_5⟩) hSd ?rr2_5
      case yr2_5 => (intro w' hS'; obtain ⟨s0, s1, s2, s3⟩ := hS'; go_simp; try rfl)
      simp only [Act.put, actP]
      refine wpHJ_take (v := ?vr2_6) 6 hFa rfl (by kernel_rfl) (fun _ _ _ h => h.elim) (Or.inl ⟨by rfl, ?yr2_6⟩) hSd ?rr2_6
      case yr2_6 => (intro w' hS'; obtain ⟨s0, s1, s2, s3⟩ := hS'; go_simp; try rfl)
      simp only [Act.put, actP]
      refine wpHJ_take (v := ?vr2_7) 7 hFa rfl (by kernel_rfl) (fun _ _ _ h => h.elim) (Or.inl ⟨by first | (simp [Region.wanted, yielded]; done) | (simp [Region.wanted, yielded, undef]; done), ?yr2_7⟩) hSd ?rr2_7
      case yr2_7 => (intro w' hS'; obtain ⟨s0, s1, s2, s3⟩ := hS'; go_simp; try rfl)
      simp only [Act.put, actP]
      refine wpHJ_take (v := ?vr2_8) 8 hFa rfl (by kernel_rfl) (fun _ _ _ h => h.elim) (Or.inl ⟨by first | (simp [Region.wanted, yielded]; done) | (simp [Region.wanted, yielded, undef]; done), ?yr2_8⟩) hSd ?rr2_8
      case yr2_8 => (intro w' hS'; obtain ⟨s0, s1, s2, s3⟩ := hS'; go_simp; try rfl)
      simp only [Act.put, actP]
      refine wpHJ_take (v := ?vr2_9) 9 hFa rfl (by kernel_rfl) (fun _ _ _ h => h.elim) (Or.inl ⟨by first | (simp [Region.wanted, yielded]; done) | (simp [Region.wanted, yielded, undef]; done), ?yr2_9⟩) hSd ?rr2_9
      case yr2_9 => (intro w' hS'; obtain ⟨s0, s1, s2, s3⟩ := hS'; go_simp; try rfl)
      simp only [Act.put, actP]
      refine wpHJ_take (v := ?vr2_10) 10 hFa rfl (by kernel_rfl) (fun _ _ _ h => h.elim) (Or.inl ⟨by first | (simp [Region.wanted, yielded]; done) | (simp [Region.wanted, yielded, undef]; done), ?yr2_10⟩) hSd ?rr2_10
      case yr2_10 => (intro w' hS'; obtain ⟨s0, s1, s2, s3⟩ := hS'; go_simp; try rfl)
      simp only [Act.put, actP]
      refine wpHJ_take (v := undef) 11 hFa rfl (by kernel_rfl) (fun _ _ _ h => h.elim) (Or.inr ⟨by first | (simp [Region.wanted, yielded]; done) | (simp [Region.wanted, yielded, undef]; done), rfl⟩) hSd ?rr2_11
      simp only [Act.put, actP]
      refine wpHJ_take (v := undef) 12 hFa rfl (by kernel_rfl) (fun _ _ _ h => h.elim) (Or.inr ⟨by first | (simp [Region.wanted, yielded]; done) | (simp [Region.wanted, yielded, undef]; done), rfl⟩) hSd ?rr2_12
      simp only [Act.put, actP]
      refine wpHJ_take (v := undef) 13 hFa rfl (by kernel_rfl) (fun _ _ _ h => h.elim) (Or.inr ⟨by first | (simp [Region.wanted, yielded]; done) | (simp [Region.wanted, yielded, undef]; done), rfl⟩) hSd ?rr2_13
      simp only [Act.put, actP]
      refine wpHJ_take (v := ?vr2_14) 14 hFa rfl (by kernel_rfl) (fun _ _ _ h => h.elim) (Or.inl ⟨by first | (simp [Region.wanted, yielded]; done) | (simp [Region.wanted, yielded, undef]; done), ?yr2_14⟩) hSd ?rr2_14
      case yr2_14 => (intro w' hS'; obtain ⟨s0, s1, s2, s3⟩ := hS'; go_simp; try rfl)
      simp only [Act.put, actP]
      refine wpHJ_take (v := ?vr2_15) 15 hFa rfl (by kernel_rfl) (fun _ _ _ h => h.elim) (Or.inl ⟨by rfl, ?yr2_15⟩) hSd ?rr2_15
      case yr2_15 => (intro w' hS'; obtain ⟨s0, s1, s2, s3⟩ := hS'; go_simp; try rfl)
      simp only [Act.put, actP]
      refine wpHJ_take (v := ?vr2_16) 16 hFa rfl (by kernel_rfl) (fun _ _ _ h => h.elim) (Or.inl ⟨by rfl, ?yr2_16⟩) hSd ?rr2_16
      case yr2_16 => (intro w' hS'; obtain ⟨s0, s1, s2, s3⟩ := hS'; go_simp; try rfl)
      simp only [Act.put, actP]
      refine wpHJ_take (v := ?vr2_17) 17 hFa rfl (by kernel_rfl) (fun _ _ _ h => h.elim) (Or.inl ⟨by first | (simp [Region.wanted, yielded]; done) | (simp [Region.wanted, yielded, undef]; done), ?yr2_17⟩) hSd ?rr2_17
      case yr2_17 => (intro w' hS'; obtain ⟨s0, s1, s2, s3⟩ := hS'; go_simp; try rfl)
      simp only [Act.put, actP]
      refine wpHJ_take (v := ?vr2_18) 18 hFa rfl (by kernel_rfl) (fun _ _ _ h => h.elim) (Or.inl ⟨by first | (simp [Region.wanted, yielded]; done) | (simp [Region.wanted, yielded, undef]; done), ?yr2_18⟩) hSd ?rr2_18
      case yr2_18 => (intro w' hS'; obtain ⟨s0, s1, s2, s3⟩ := hS'; go_simp; try rfl)
      simp only [Act.put, actP]
      refine wpHJ_take (v := ?vr2_19) 19 hFa rfl (by kernel_rfl) (fun _ _ _ h => h.elim) (Or.inl ⟨by first | (simp [Region.wanted, yielded]; done) | (simp [Region.wanted, yielded, undef]; done), ?yr2_19⟩) hSd ?rr2_19
      case yr2_19 => (intro w' hS'; obtain ⟨s0, s1, s2, s3⟩ := hS'; go_simp; try rfl)
      simp only [Act.put, actP]
      refine wpHJ_take (v := ?vr2_20) 20 hFa rfl (by kernel_rfl) (fun _ _ _ h => h.elim) (Or.inl ⟨by first | (simp [Region.wanted, yielded]; done) | (simp [Region.wanted, yielded, undef]; done), ?yr2_20⟩) hSd ?rr2_20
      case yr2_20 => (intro w' hS'; obtain ⟨s0, s1, s2, s3⟩ := hS'; go_simp; try rfl)
      simp only [Act.put, actP]
      refine wpHJ_only 21 (by kernel_rfl) rfl ?_
      intro K hK
      rw [if_pos (by first | (simp [Region.wanted, yielded]; done) | (simp [Region.wanted, yielded, undef]; done))]
      go_simp
      (with_reducible refine (callsIn_wide.2 (HNN.out _ (HE.out.step (HBD.out.mono HE.out.size)).e)).mono ?_)
      rintro e wn ⟨rfl, hbn⟩
      rw [HNV.out]
      have hSn : (fun W => W.cell? ⟨w.heap.size, 2, none⟩ = some (.string ⟨d.toArray⟩) ∧ W.cell? ⟨w.heap.size, 3, none⟩ = some (.string ⟨n.toArray⟩) ∧ W.cell? ⟨w.heap.size + 1, 0, none⟩ = some (.bool true) ∧ W.cell? ⟨w.heap.size + 1, 1, none⟩ = some (.bool true)) wn := ⟨(hbn.cell (p := ⟨_, _, none⟩) (cell_size hSd.1)).trans hSd.1, (hbn.cell (p := ⟨_, _, none⟩) (cell_size hSd.2.1)).trans hSd.2.1, (hbn.cell (p := ⟨_, _, none⟩) (cell_size hSd.2.2.1)).trans hSd.2.2.1, (hbn.cell (p := ⟨_, _, none⟩) (cell_size hSd.2.2.2)).trans hSd.2.2.2⟩
      have HBN := hid (HBD.out.trans (hbn.mono HBD.out.size))
      have HB1N := hid (HB1D.out.bel hbn)
      clear hbn hSd
      refine hK _ _ (.inr (.inr hSn)) ?_
      clear hK K
      refine wpHJ_take (v := ?vr2_22) 22 hFa rfl (by kernel_rfl) (fun _ _ _ h => h.elim) (Or.inl ⟨by first | (simp [Region.wanted, yielded]; done) | (simp [Region.wanted, yielded, undef]; done), ?yr2_22⟩) hSn ?rr2_22
      case yr2_22 => (intro w' hS'; obtain ⟨s0, s1, s2, s3⟩ := hS'; go_simp; try rfl)
      simp only [Act.put, actP]
      refine wpHJ_take (v := ?vr2_23) 23 hFa rfl (by kernel_rfl) (fun _ _ _ h => h.elim) (Or.inl ⟨by rfl, ?yr2_23⟩) hSn ?rr2_23
      case yr2_23 => (intro w' hS'; obtain ⟨s0, s1, s2, s3⟩ := hS'; go_simp; try rfl)
      simp only [Act.put, actP]
      refine wpHJ_take (v := ?vr2_24) 24 hFa rfl (by kernel_rfl) (fun _ _ _ h => h.elim) (Or.inl ⟨by rfl, ?yr2_24⟩) hSn ?rr2_24
      case yr2_24 => (intro w' hS'; obtain ⟨s0, s1, s2, s3⟩ := hS'; go_simp; try rfl)
      simp only [Act.put, actP]
      refine wpHJ_take (v := undef) 25 hFa rfl (by kernel_rfl) (fun _ _ _ h => h.elim) (Or.inr ⟨by first | (simp [Region.wanted, yielded]; done) | (simp [Region.wanted, yielded, undef]; done), rfl⟩) hSn ?rr2_25
      simp only [Act.put, actP]
      refine wpHJ_take (v := undef) 26 hFa rfl (by kernel_rfl) (fun _ _ _ h => h.elim) (Or.inr ⟨by first | (simp [Region.wanted, yielded]; done) | (simp [Region.wanted, yielded, undef]; done), rfl⟩) hSn ?rr2_26
      simp only [Act.put, actP]
      refine wpHJ_take (v := undef) 27 hFa rfl (by kernel_rfl) (fun _ _ _ h => h.elim) (Or.inr ⟨by first | (simp [Region.wanted, yielded]; done) | (simp [Region.wanted, yielded, undef]; done), rfl⟩) hSn ?rr2_27
      simp only [Act.put, actP]
      refine wpHJ_take (v := undef) 28 hFa rfl (by kernel_rfl) (fun _ _ _ h => h.elim) (Or.inr ⟨by first | (simp [Region.wanted, yielded]; done) | (simp [Region.wanted, yielded, undef]; done), rfl⟩) hSn ?rr2_28
      simp only [Act.put, actP]
      refine wpHJ_take (v := undef) 29 hFa rfl (by kernel_rfl) (fun _ _ _ h => h.elim) (Or.inr ⟨by first | (simp [Region.wanted, yielded]; done) | (simp [Region.wanted, yielded, undef]; done), rfl⟩) hSn ?rr2_29
      simp only [Act.put, actP]
      refine wpHJ_take (v := undef) 30 hFa rfl (by kernel_rfl) (fun _ _ _ h => h.elim) (Or.inr ⟨by first | (simp [Region.wanted, yielded]; done) | (simp [Region.wanted, yielded, undef]; done), rfl⟩) hSn ?rr2_30
      simp only [Act.put, actP]
      refine wpHJ_take (v := undef) 31 hFa rfl (by kernel_rfl) (fun _ _ _ h => h.elim) (Or.inr ⟨by first | (simp [Region.wanted, yielded]; done) | (simp [Region.wanted, yielded, undef]; done), rfl⟩) hSn ?rr2_31
      simp only [Act.put, actP]
      refine wpHJ_take (v := undef) 32 hFa rfl (by kernel_rfl) (fun _ _ _ h => h.elim) (Or.inr ⟨by first | (simp [Region.wanted, yielded]; done) | (simp [Region.wanted, yielded, undef]; done), rfl⟩) hSn ?rr2_32
      simp only [Act.put, actP]
      refine wpHJ_only 33 (by kernel_rfl) rfl ?_
      intro K hK
      go_simp
      refine hK _ _ (.inr (.inr hSn)) ?_
      clear hK K
      refine wpHJ_done (by kernel_rfl) ?_ _
      simp only [onlyN, Exit.then]
      clear hFa
      go_wp2_with fail
      go_meet
      case rel => exact ⟨by rw [HD.out, HN.out]; first | rfl | (simp [fieldB, HDV.out, HNV.out]; done) | (simp [fieldB, HDV.out, HNV.out, HNE.out]; done) | (simp [fieldB, HDV.out, HNV.out, HDE.out]; done) | (simp [fieldB, HDV.out, HNV.out, named_ne HNV.out]; done) | (simp [fieldB, HDV.out, HNV.out, named_ne HDV.out]; done), HB1N.out, HBN.out⟩
    | false =>
     cases hnv : namedB n with
     | true =>
      have HNV := hid hnv; clear hnv
      have hFa : ∀ f, Fence.wide.fn f := fun _ => trivial
      refine (wpIn_wide (n := 9)).1 ?_
      refine wpIn_onlyN ?_
      refine wpIn_region_HJ (fun W => W.cell? ⟨w.heap.size, 2, none⟩ = some (.string ⟨d.toArray⟩) ∧ W.cell? ⟨w.heap.size, 3, none⟩ = some (.string ⟨n.toArray⟩) ∧ W.cell? ⟨w.heap.size + 1, 0, none⟩ = some (.bool true) ∧ W.cell? ⟨w.heap.size + 1, 1, none⟩ = some (.bool false)) 34 (by kernel_rfl) ?_
      simp only [List.size_toArray, List.length_cons, List.length_nil, Nat.reduceAdd]
      refine wpHJ_take (v := ?vr3_0) 0 hFa rfl (by kernel_rfl) (fun _ _ _ h => h.elim) (Or.inl ⟨by rfl, ?yr3_0⟩) hS ?rr3_0
      case yr3_0 => (intro w' hS'; obtain ⟨s0, s1, s2, s3⟩ := hS'; go_simp; try rfl)
      simp only [Act.put, actP]
      refine wpHJ_take (v := ?vr3_1) 1 hFa rfl (by kernel_rfl) (fun _ _ _ h => h.elim) (Or.inl ⟨by rfl, ?yr3_1⟩) hS ?rr3_1
      case yr3_1 => (intro w' hS'; obtain ⟨s0, s1, s2, s3⟩ := hS'; go_simp; try rfl)
      simp only [Act.put, actP]
      refine wpHJ_take (v := ?vr3_2) 2 hFa rfl (by kernel_rfl) (fun _ _ _ h => h.elim) (Or.inl ⟨by rfl, ?yr3_2⟩) hS ?rr3_2
      case yr3_2 => (intro w' hS'; obtain ⟨s0, s1, s2, s3⟩ := hS'; go_simp; try rfl)
      simp only [Act.put, actP]
      refine wpHJ_take (v := ?vr3_3) 3 hFa rfl (by kernel_rfl) (fun _ _ _ h => h.elim) (Or.inl ⟨by rfl, ?yr3_3⟩) hS ?rr3_3
      case yr3_3 => (intro w' hS'; obtain ⟨s0, s1, s2, s3⟩ := hS'; go_simp; try rfl)
      simp only [Act.put, actP]
      refine wpHJ_only 4 (by kernel_rfl) rfl ?_
      intro K hK
      go_simp
      (with_reducible refine (callsIn_wide.2 (HND.out _ (HE.out.step ((HBW.out.drew).mono HE.out.size)).e)).mono ?_)
      rintro e wd ⟨rfl, hbd⟩
      rw [HDV.out]
      have hSd : (fun W => W.cell? ⟨w.heap.size, 2, none⟩ = some (.string ⟨d.toArray⟩) ∧ W.cell? ⟨w.heap.size, 3, none⟩ = some (.string ⟨n.toArray⟩) ∧ W.cell? ⟨w.heap.size + 1, 0, none⟩ = some (.bool true) ∧ W.cell? ⟨w.heap.size + 1, 1, none⟩ = some (.bool false)) wd := ⟨(hbd.cell (p := ⟨_, _, none⟩) (cell_size hS.1)).trans hS.1, (hbd.cell (p := ⟨_, _, none⟩) (cell_size hS.2.1)).trans hS.2.1, (hbd.cell (p := ⟨_, _, none⟩) (cell_size hS.2.2.1)).trans hS.2.2.1, (hbd.cell (p := ⟨_, _, none⟩) (cell_size hS.2.2.2)).trans hS.2.2.2⟩
      have HBD := hid (HBW.out.drew.trans (hbd.mono HBW.out.size))
      have HB1D := hid ((show BxL 26 w.heap.size (inL x (.slice pa x.args.length ca)) wc.drew from HB1.out).bel hbd)
      clear hbd hS
      refine hK _ _ (.inr (.inr hSd)) ?_
      clear hK K
      refine wpHJ_take (v := ?vr3_5) 5 hFa rfl (by kernel_rfl) (fun _ _ _ h => h.elim) (Or.inl ⟨by rfl, ?yr3_5⟩) hSd ?rr3_5
      case yr3_5 => (intro w' hS'; obtain ⟨s0, s1, s2, s3⟩ := hS'; go_simp; try rfl)
      simp only [Act.put, actP]
      refine wpHJ_take (v := ?vr3_6) 6 hFa rfl (by kernel_rfl) (fun _ _ _ h => h.elim) (Or.inl ⟨by rfl, ?yr3_6⟩) hSd ?rr3_6
      case yr3_6 => (intro w' hS'; obtain ⟨s0, s1, s2, s3⟩ := hS'; go_simp; try rfl)
      simp only [Act.put, actP]
      refine wpHJ_take (v := ?vr3_7) 7 hFa rfl (by kernel_rfl) (fun _ _ _ h => h.elim) (Or.inl ⟨by first | (simp [Region.wanted, yielded]; done) | (simp [Region.wanted, yielded, undef]; done), ?yr3_7⟩) hSd ?rr3_7
      case yr3_7 => (intro w' hS'; obtain ⟨s0, s1, s2, s3⟩ := hS'; go_simp; try rfl)
      simp only [Act.put, actP]
      refine wpHJ_take (v := ?vr3_8) 8 hFa rfl (by kernel_rfl) (fun _ _ _ h => h.elim) (Or.inl ⟨by first | (simp [Region.wanted, yielded]; done) | (simp [Region.wanted, yielded, undef]; done), ?yr3_8⟩) hSd ?rr3_8
      case yr3_8 => (intro w' hS'; obtain ⟨s0, s1, s2, s3⟩ := hS'; go_simp; try rfl)
      simp only [Act.put, actP]
      refine wpHJ_take (v := ?vr3_9) 9 hFa rfl (by kernel_rfl) (fun _ _ _ h => h.elim) (Or.inl ⟨by first | (simp [Region.wanted, yielded]; done) | (simp [Region.wanted, yielded, undef]; done), ?yr3_9⟩) hSd ?rr3_9
      case yr3_9 => (intro w' hS'; obtain ⟨s0, s1, s2, s3⟩ := hS'; go_simp; try rfl)
      simp only [Act.put, actP]
      refine wpHJ_take (v := ?vr3_10) 10 hFa rfl (by kernel_rfl) (fun _ _ _ h => h.elim) (Or.inl ⟨by first | (simp [Region.wanted, yielded]; done) | (simp [Region.wanted, yielded, undef]; done), ?yr3_10⟩) hSd ?rr3_10
      case yr3_10 => (intro w' hS'; obtain ⟨s0, s1, s2, s3⟩ := hS'; go_simp; try rfl)
      simp only [Act.put, actP]
      refine wpHJ_take (v := undef) 11 hFa rfl (by kernel_rfl) (fun _ _ _ h => h.elim) (Or.inr ⟨by first | (simp [Region.wanted, yielded]; done) | (simp [Region.wanted, yielded, undef]; done), rfl⟩) hSd ?rr3_11
      simp only [Act.put, actP]
      refine wpHJ_take (v := undef) 12 hFa rfl (by kernel_rfl) (fun _ _ _ h => h.elim) (Or.inr ⟨by first | (simp [Region.wanted, yielded]; done) | (simp [Region.wanted, yielded, undef]; done), rfl⟩) hSd ?rr3_12
      simp only [Act.put, actP]
      refine wpHJ_take (v := undef) 13 hFa rfl (by kernel_rfl) (fun _ _ _ h => h.elim) (Or.inr ⟨by first | (simp [Region.wanted, yielded]; done) | (simp [Region.wanted, yielded, undef]; done), rfl⟩) hSd ?rr3_13
      simp only [Act.put, actP]
      refine wpHJ_take (v := ?vr3_14) 14 hFa rfl (by kernel_rfl) (fun _ _ _ h => h.elim) (Or.inl ⟨by first | (simp [Region.wanted, yielded]; done) | (simp [Region.wanted, yielded, undef]; done), ?yr3_14⟩) hSd ?rr3_14
      case yr3_14 => (intro w' hS'; obtain ⟨s0, s1, s2, s3⟩ := hS'; go_simp; try rfl)
      simp only [Act.put, actP]
      refine wpHJ_take (v := ?vr3_15) 15 hFa rfl (by kernel_rfl) (fun _ _ _ h => h.elim) (Or.inl ⟨by rfl, ?yr3_15⟩) hSd ?rr3_15
      case yr3_15 => (intro w' hS'; obtain ⟨s0, s1, s2, s3⟩ := hS'; go_simp; try rfl)
      simp only [Act.put, actP]
      refine wpHJ_take (v := ?vr3_16) 16 hFa rfl (by kernel_rfl) (fun _ _ _ h => h.elim) (Or.inl ⟨by rfl, ?yr3_16⟩) hSd ?rr3_16
      case yr3_16 => (intro w' hS'; obtain ⟨s0, s1, s2, s3⟩ := hS'; go_simp; try rfl)
      simp only [Act.put, actP]
      refine wpHJ_take (v := ?vr3_17) 17 hFa rfl (by kernel_rfl) (fun _ _ _ h => h.elim) (Or.inl ⟨by first | (simp [Region.wanted, yielded]; done) | (simp [Region.wanted, yielded, undef]; done), ?yr3_17⟩) hSd ?rr3_17
      case yr3_17 => (intro w' hS'; obtain ⟨s0, s1, s2, s3⟩ := hS'; go_simp; try rfl)
      simp only [Act.put, actP]
      refine wpHJ_take (v := ?vr3_18) 18 hFa rfl (by kernel_rfl) (fun _ _ _ h => h.elim) (Or.inl ⟨by first | (simp [Region.wanted, yielded]; done) | (simp [Region.wanted, yielded, undef]; done), ?yr3_18⟩) hSd ?rr3_18
      case yr3_18 => (intro w' hS'; obtain ⟨s0, s1, s2, s3⟩ := hS'; go_simp; try rfl)
      simp only [Act.put, actP]
      refine wpHJ_take (v := ?vr3_19) 19 hFa rfl (by kernel_rfl) (fun _ _ _ h => h.elim) (Or.inl ⟨by first | (simp [Region.wanted, yielded]; done) | (simp [Region.wanted, yielded, undef]; done), ?yr3_19⟩) hSd ?rr3_19
      case yr3_19 => (intro w' hS'; obtain ⟨s0, s1, s2, s3⟩ := hS'; go_simp; try rfl)
      simp only [Act.put, actP]
      refine wpHJ_take (v := ?vr3_20) 20 hFa rfl (by kernel_rfl) (fun _ _ _ h => h.elim) (Or.inl ⟨by first | (simp [Region.wanted, yielded]; done) | (simp [Region.wanted, yielded, undef]; done), ?yr3_20⟩) hSd ?rr3_20
      case yr3_20 => (intro w' hS'; obtain ⟨s0, s1, s2, s3⟩ := hS'; go_simp; try rfl)
      simp only [Act.put, actP]
      refine wpHJ_only 21 (by kernel_rfl) rfl ?_
      intro K hK
      rw [if_pos (by first | (simp [Region.wanted, yielded]; done) | (simp [Region.wanted, yielded, undef]; done))]
      go_simp
      (with_reducible refine (callsIn_wide.2 (HNN.out _ (HE.out.step (HBD.out.mono HE.out.size)).e)).mono ?_)
      rintro e wn ⟨rfl, hbn⟩
      rw [HNV.out]
      have hSn : (fun W => W.cell? ⟨w.heap.size, 2, none⟩ = some (.string ⟨d.toArray⟩) ∧ W.cell? ⟨w.heap.size, 3, none⟩ = some (.string ⟨n.toArray⟩) ∧ W.cell? ⟨w.heap.size + 1, 0, none⟩ = some (.bool true) ∧ W.cell? ⟨w.heap.size + 1, 1, none⟩ = some (.bool false)) wn := ⟨(hbn.cell (p := ⟨_, _, none⟩) (cell_size hSd.1)).trans hSd.1, (hbn.cell (p := ⟨_, _, none⟩) (cell_size hSd.2.1)).trans hSd.2.1, (hbn.cell (p := ⟨_, _, none⟩) (cell_size hSd.2.2.1)).trans hSd.2.2.1, (hbn.cell (p := ⟨_, _, none⟩) (cell_size hSd.2.2.2)).trans hSd.2.2.2⟩
      have HBN := hid (HBD.out.trans (hbn.mono HBD.out.size))
      have HB1N := hid (HB1D.out.bel hbn)
      clear hbn hSd
      refine hK _ _ (.inr (.inr hSn)) ?_
      clear hK K
      refine wpHJ_take (v := ?vr3_22) 22 hFa rfl (by kernel_rfl) (fun _ _ _ h => h.elim) (Or.inl ⟨by first | (simp [Region.wanted, yielded]; done) | (simp [Region.wanted, yielded, undef]; done), ?yr3_22⟩) hSn ?rr3_22
      case yr3_22 => (intro w' hS'; obtain ⟨s0, s1, s2, s3⟩ := hS'; go_simp; try rfl)
      simp only [Act.put, actP]
      refine wpHJ_take (v := ?vr3_23) 23 hFa rfl (by kernel_rfl) (fun _ _ _ h => h.elim) (Or.inl ⟨by rfl, ?yr3_23⟩) hSn ?rr3_23
      case yr3_23 => (intro w' hS'; obtain ⟨s0, s1, s2, s3⟩ := hS'; go_simp; try rfl)
      simp only [Act.put, actP]
      refine wpHJ_take (v := ?vr3_24) 24 hFa rfl (by kernel_rfl) (fun _ _ _ h => h.elim) (Or.inl ⟨by rfl, ?yr3_24⟩) hSn ?rr3_24
      case yr3_24 => (intro w' hS'; obtain ⟨s0, s1, s2, s3⟩ := hS'; go_simp; try rfl)
      simp only [Act.put, actP]
      refine wpHJ_take (v := undef) 25 hFa rfl (by kernel_rfl) (fun _ _ _ h => h.elim) (Or.inr ⟨by first | (simp [Region.wanted, yielded]; done) | (simp [Region.wanted, yielded, undef]; done), rfl⟩) hSn ?rr3_25
      simp only [Act.put, actP]
      refine wpHJ_take (v := undef) 26 hFa rfl (by kernel_rfl) (fun _ _ _ h => h.elim) (Or.inr ⟨by first | (simp [Region.wanted, yielded]; done) | (simp [Region.wanted, yielded, undef]; done), rfl⟩) hSn ?rr3_26
      simp only [Act.put, actP]
      refine wpHJ_take (v := undef) 27 hFa rfl (by kernel_rfl) (fun _ _ _ h => h.elim) (Or.inr ⟨by first | (simp [Region.wanted, yielded]; done) | (simp [Region.wanted, yielded, undef]; done), rfl⟩) hSn ?rr3_27
      simp only [Act.put, actP]
      refine wpHJ_take (v := undef) 28 hFa rfl (by kernel_rfl) (fun _ _ _ h => h.elim) (Or.inr ⟨by first | (simp [Region.wanted, yielded]; done) | (simp [Region.wanted, yielded, undef]; done), rfl⟩) hSn ?rr3_28
      simp only [Act.put, actP]
      refine wpHJ_take (v := undef) 29 hFa rfl (by kernel_rfl) (fun _ _ _ h => h.elim) (Or.inr ⟨by first | (simp [Region.wanted, yielded]; done) | (simp [Region.wanted, yielded, undef]; done), rfl⟩) hSn ?rr3_29
      simp only [Act.put, actP]
      refine wpHJ_take (v := undef) 30 hFa rfl (by kernel_rfl) (fun _ _ _ h => h.elim) (Or.inr ⟨by first | (simp [Region.wanted, yielded]; done) | (simp [Region.wanted, yielded, undef]; done), rfl⟩) hSn ?rr3_30
      simp only [Act.put, actP]
      refine wpHJ_take (v := undef) 31 hFa rfl (by kernel_rfl) (fun _ _ _ h => h.elim) (Or.inr ⟨by first | (simp [Region.wanted, yielded]; done) | (simp [Region.wanted, yielded, undef]; done), rfl⟩) hSn ?rr3_31
      simp only [Act.put, actP]
      refine wpHJ_take (v := undef) 32 hFa rfl (by kernel_rfl) (fun _ _ _ h => h.elim) (Or.inr ⟨by first | (simp [Region.wanted, yielded]; done) | (simp [Region.wanted, yielded, undef]; done), rfl⟩) hSn ?rr3_32
      simp only [Act.put, actP]
      refine wpHJ_only 33 (by kernel_rfl) rfl ?_
      intro K hK
      go_simp
      refine hK _ _ (.inr (.inr hSn)) ?_
      clear hK K
      refine wpHJ_done (by kernel_rfl) ?_ _
      simp only [onlyN, Exit.then]
      clear hFa
      go_wp2_with fail
      go_meet
      case rel => exact ⟨by rw [HD.out, HN.out]; first | rfl | (simp [fieldB, HDV.out, HNV.out]; done) | (simp [fieldB, HDV.out, HNV.out, HNE.out]; done) | (simp [fieldB, HDV.out, HNV.out, HDE.out]; done) | (simp [fieldB, HDV.out, HNV.out, named_ne HNV.out]; done) | (simp [fieldB, HDV.out, HNV.out, named_ne HDV.out]; done), HB1N.out, HBN.out⟩
     | false =>
      have HNV := hid hnv; clear hnv
      by_cases hne : n = []
      ·subst hne
       have hFa : ∀ f, Fence.wide.fn f := fun _ => trivial
       refine (wpIn_wide (n := 9)).1 ?_
       refine wpIn_onlyN ?_
       refine wpIn_region_HJ (fun W => W.cell? ⟨w.heap.size, 2, none⟩ = some (.string ⟨d.toArray⟩) ∧ W.cell? ⟨w.heap.size, 3, none⟩ = some (.string ⟨([] : Bs).toArray⟩) ∧ W.cell? ⟨w.heap.size + 1, 0, none⟩ = some (.bool true) ∧ W.cell? ⟨w.heap.size + 1, 1, none⟩ = some (.bool false)) 34 (by kernel_rfl) ?_
       simp only [List.size_toArray, List.length_cons, List.length_nil, Nat.reduceAdd]
       refine wpHJ_take (v := ?vr4_0) 0 hFa rfl (by kernel_rfl) (fun _ _ _ h => h.elim) (Or.inl ⟨by rfl, ?yr4_0⟩) hS ?rr4_0
       case yr4_0 => (intro w' hS'; obtain ⟨s0, s1, s2, s3⟩ := hS'; go_simp; try rfl)
       simp only [Act.put, actP]
       refine wpHJ_take (v := ?vr4_1) 1 hFa rfl (by kernel_rfl) (fun _ _ _ h => h.elim) (Or.inl ⟨by rfl, ?yr4_1⟩) hS ?rr4_1
       case yr4_1 => (intro w' hS'; obtain ⟨s0, s1, s2, s3⟩ := hS'; go_simp; try rfl)
       simp only [Act.put, actP]
       refine wpHJ_take (v := ?vr4_2) 2 hFa rfl (by kernel_rfl) (fun _ _ _ h => h.elim) (Or.inl ⟨by rfl, ?yr4_2⟩) hS ?rr4_2
       case yr4_2 => (intro w' hS'; obtain ⟨s0, s1, s2, s3⟩ := hS'; go_simp; try rfl)
       simp only [Act.put, actP]
       refine wpHJ_take (v := ?vr4_3) 3 hFa rfl (by kernel_rfl) (fun _ _ _ h => h.elim) (Or.inl ⟨by rfl, ?yr4_3⟩) hS ?rr4_3
       case yr4_3 => (intro w' hS'; obtain ⟨s0, s1, s2, s3⟩ := hS'; go_simp; try rfl)
       simp only [Act.put, actP]
       refine wpHJ_only 4 (by kernel_rfl) rfl ?_
       intro K hK
       go_simp
       (with_reducible refine (callsIn_wide.2 (HND.out _ (HE.out.step ((HBW.out.drew).mono HE.out.size)).e)).mono ?_)
       rintro e wd ⟨rfl, hbd⟩
       rw [HDV.out]
       have hSd : (fun W => W.cell? ⟨w.heap.size, 2, none⟩ = some (.string ⟨d.toArray⟩) ∧ W.cell? ⟨w.heap.size, 3, none⟩ = some (.string ⟨([] : Bs).toArray⟩) ∧ W.cell? ⟨w.heap.size + 1, 0, none⟩ = some (.bool true) ∧ W.cell? ⟨w.heap.size + 1, 1, none⟩ = some (.bool false)) wd := ⟨(hbd.cell (p := ⟨_, _, none⟩) (cell_size hS.1)).trans hS.1, (hbd.cell (p := ⟨_, _, none⟩) (cell_size hS.2.1)).trans hS.2.1, (hbd.cell (p := ⟨_, _, none⟩) (cell_size hS.2.2.1)).trans hS.2.2.1, (hbd.cell (p := ⟨_, _, none⟩) (cell_size hS.2.2.2)).trans hS.2.2.2⟩
       have HBD := hid (HBW.out.drew.trans (hbd.mono HBW.out.size))
       have HB1D := hid ((show BxL 26 w.heap.size (inL x (.slice pa x.args.length ca)) wc.drew from HB1.out).bel hbd)
       clear hbd hS
       refine hK _ _ (.inr (.inr hSd)) ?_
       clear hK K
       refine wpHJ_take (v := ?vr4_5) 5 hFa rfl (by kernel_rfl) (fun _ _ _ h => h.elim) (Or.inl ⟨by rfl, ?yr4_5⟩) hSd ?rr4_5
       case yr4_5 => (intro w' hS'; obtain ⟨s0, s1, s2, s3⟩ := hS'; go_simp; try rfl)
       simp only [Act.put, actP]
       refine wpHJ_take (v := ?vr4_6) 6 hFa rfl (by kernel_rfl) (fun _ _ _ h => h.elim) (Or.inl ⟨by rfl, ?yr4_6⟩) hSd ?rr4_6
       case yr4_6 => (intro w' hS'; obtain ⟨s0, s1, s2, s3⟩ := hS'; go_simp; try rfl)
       simp only [Act.put, actP]
       refine wpHJ_take (v := ?vr4_7) 7 hFa rfl (by kernel_rfl) (fun _ _ _ h => h.elim) (Or.inl ⟨by first | (simp [Region.wanted, yielded]; done) | (simp [Region.wanted, yielded, undef]; done), ?yr4_7⟩) hSd ?rr4_7
       case yr4_7 => (intro w' hS'; obtain ⟨s0, s1, s2, s3⟩ := hS'; go_simp; try rfl)
       simp only [Act.put, actP]
       refine wpHJ_take (v := ?vr4_8) 8 hFa rfl (by kernel_rfl) (fun _ _ _ h => h.elim) (Or.inl ⟨by first | (simp [Region.wanted, yielded]; done) | (simp [Region.wanted, yielded, undef]; done), ?yr4_8⟩) hSd ?rr4_8
       case yr4_8 => (intro w' hS'; obtain ⟨s0, s1, s2, s3⟩ := hS'; go_simp; try rfl)
       simp only [Act.put, actP]
       refine wpHJ_take (v := ?vr4_9) 9 hFa rfl (by kernel_rfl) (fun _ _ _ h => h.elim) (Or.inl ⟨by first | (simp [Region.wanted, yielded]; done) | (simp [Region.wanted, yielded, undef]; done), ?yr4_9⟩) hSd ?rr4_9
       case yr4_9 => (intro w' hS'; obtain ⟨s0, s1, s2, s3⟩ := hS'; go_simp; try rfl)
       simp only [Act.put, actP]
       refine wpHJ_take (v := ?vr4_10) 10 hFa rfl (by kernel_rfl) (fun _ _ _ h => h.elim) (Or.inl ⟨by first | (simp [Region.wanted, yielded]; done) | (simp [Region.wanted, yielded, undef]; done), ?yr4_10⟩) hSd ?rr4_10
       case yr4_10 => (intro w' hS'; obtain ⟨s0, s1, s2, s3⟩ := hS'; go_simp; try rfl)
       simp only [Act.put, actP]
       refine wpHJ_take (v := undef) 11 hFa rfl (by kernel_rfl) (fun _ _ _ h => h.elim) (Or.inr ⟨by first | (simp [Region.wanted, yielded]; done) | (simp [Region.wanted, yielded, undef]; done), rfl⟩) hSd ?rr4_11
       simp only [Act.put, actP]
       refine wpHJ_take (v := undef) 12 hFa rfl (by kernel_rfl) (fun _ _ _ h => h.elim) (Or.inr ⟨by first | (simp [Region.wanted, yielded]; done) | (simp [Region.wanted, yielded, undef]; done), rfl⟩) hSd ?rr4_12
       simp only [Act.put, actP]
       refine wpHJ_take (v := undef) 13 hFa rfl (by kernel_rfl) (fun _ _ _ h => h.elim) (Or.inr ⟨by first | (simp [Region.wanted, yielded]; done) | (simp [Region.wanted, yielded, undef]; done), rfl⟩) hSd ?rr4_13
       simp only [Act.put, actP]
       refine wpHJ_take (v := ?vr4_14) 14 hFa rfl (by kernel_rfl) (fun _ _ _ h => h.elim) (Or.inl ⟨by first | (simp [Region.wanted, yielded]; done) | (simp [Region.wanted, yielded, undef]; done), ?yr4_14⟩) hSd ?rr4_14
       case yr4_14 => (intro w' hS'; obtain ⟨s0, s1, s2, s3⟩ := hS'; go_simp; try rfl)
       simp only [Act.put, actP]
       refine wpHJ_take (v := ?vr4_15) 15 hFa rfl (by kernel_rfl) (fun _ _ _ h => h.elim) (Or.inl ⟨by rfl, ?yr4_15⟩) hSd ?rr4_15
       case yr4_15 => (intro w' hS'; obtain ⟨s0, s1, s2, s3⟩ := hS'; go_simp; try rfl)
       simp only [Act.put, actP]
       refine wpHJ_take (v := ?vr4_16) 16 hFa rfl (by kernel_rfl) (fun _ _ _ h => h.elim) (Or.inl ⟨by rfl, ?yr4_16⟩) hSd ?rr4_16
       case yr4_16 => (intro w' hS'; obtain ⟨s0, s1, s2, s3⟩ := hS'; go_simp; try rfl)
       simp only [Act.put, actP]
       refine wpHJ_take (v := ?vr4_17) 17 hFa rfl (by kernel_rfl) (fun _ _ _ h => h.elim) (Or.inl ⟨by first | (simp [Region.wanted, yielded]; done) | (simp [Region.wanted, yielded, undef]; done), ?yr4_17⟩) hSd ?rr4_17
       case yr4_17 => (intro w' hS'; obtain ⟨s0, s1, s2, s3⟩ := hS'; go_simp; try rfl)
       simp only [Act.put, actP]
       refine wpHJ_take (v := ?vr4_18) 18 hFa rfl (by kernel_rfl) (fun _ _ _ h => h.elim) (Or.inl ⟨by first | (simp [Region.wanted, yielded]; done) | (simp [Region.wanted, yielded, undef]; done), ?yr4_18⟩) hSd ?rr4_18
       case yr4_18 => (intro w' hS'; obtain ⟨s0, s1, s2, s3⟩ := hS'; go_simp; try rfl)
       simp only [Act.put, actP]
       refine wpHJ_take (v := ?vr4_19) 19 hFa rfl (by kernel_rfl) (fun _ _ _ h => h.elim) (Or.inl ⟨by first | (simp [Region.wanted, yielded]; done) | (simp [Region.wanted, yielded, undef]; done), ?yr4_19⟩) hSd ?rr4_19
       case yr4_19 => (intro w' hS'; obtain ⟨s0, s1, s2, s3⟩ := hS'; go_simp; try rfl)
       simp only [Act.put, actP]
       refine wpHJ_take (v := ?vr4_20) 20 hFa rfl (by kernel_rfl) (fun _ _ _ h => h.elim) (Or.inl ⟨by first | (simp [Region.wanted, yielded]; done) | (simp [Region.wanted, yielded, undef]; done), ?yr4_20⟩) hSd ?rr4_20
       case yr4_20 => (intro w' hS'; obtain ⟨s0, s1, s2, s3⟩ := hS'; go_simp; try rfl)
       simp only [Act.put, actP]
       refine wpHJ_only 21 (by kernel_rfl) rfl ?_
       intro K hK
       rw [if_pos (by first | (simp [Region.wanted, yielded]; done) | (simp [Region.wanted, yielded, undef]; done))]
       go_simp
       (with_reducible refine (callsIn_wide.2 (HNN.out _ (HE.out.step (HBD.out.mono HE.out.size)).e)).mono ?_)
       rintro e wn ⟨rfl, hbn⟩
       rw [HNV.out]
       have hSn : (fun W => W.cell? ⟨w.heap.size, 2, none⟩ = some (.string ⟨d.toArray⟩) ∧ W.cell? ⟨w.heap.size, 3, none⟩ = some (.string ⟨([] : Bs).toArray⟩) ∧ W.cell? ⟨w.heap.size + 1, 0, none⟩ = some (.bool true) ∧ W.cell? ⟨w.heap.size + 1, 1, none⟩ = some (.bool false)) wn := ⟨(hbn.cell (p := ⟨_, _, none⟩) (cell_size hSd.1)).trans hSd.1, (hbn.cell (p := ⟨_, _, none⟩) (cell_size hSd.2.1)).trans hSd.2.1, (hbn.cell (p := ⟨_, _, none⟩) (cell_size hSd.2.2.1)).trans hSd.2.2.1, (hbn.cell (p := ⟨_, _, none⟩) (cell_size hSd.2.2.2)).trans hSd.2.2.2⟩
       have HBN := hid (HBD.out.trans (hbn.mono HBD.out.size))
       have HB1N := hid (HB1D.out.bel hbn)
       clear hbn hSd
       refine hK _ _ (.inr (.inr hSn)) ?_
       clear hK K
       refine wpHJ_take (v := ?vr4_22) 22 hFa rfl (by kernel_rfl) (fun _ _ _ h => h.elim) (Or.inl ⟨by first | (simp [Region.wanted, yielded]; done) | (simp [Region.wanted, yielded, undef]; done), ?yr4_22⟩) hSn ?rr4_22
       case yr4_22 => (intro w' hS'; obtain ⟨s0, s1, s2, s3⟩ := hS'; go_simp; try rfl)
       simp only [Act.put, actP]
       refine wpHJ_take (v := ?vr4_23) 23 hFa rfl (by kernel_rfl) (fun _ _ _ h => h.elim) (Or.inl ⟨by rfl, ?yr4_23⟩) hSn ?rr4_23
       case yr4_23 => (intro w' hS'; obtain ⟨s0, s1, s2, s3⟩ := hS'; go_simp; try rfl)
       simp only [Act.put, actP]
       refine wpHJ_take (v := ?vr4_24) 24 hFa rfl (by kernel_rfl) (fun _ _ _ h => h.elim) (Or.inl ⟨by rfl, ?yr4_24⟩) hSn ?rr4_24
       case yr4_24 => (intro w' hS'; obtain ⟨s0, s1, s2, s3⟩ := hS'; go_simp; try rfl)
       simp only [Act.put, actP]
       refine wpHJ_take (v := ?vr4_25) 25 hFa rfl (by kernel_rfl) (fun _ _ _ h => h.elim) (Or.inl ⟨by first | (simp [Region.wanted, yielded]; done) | (simp [Region.wanted, yielded, undef]; done), ?yr4_25⟩) hSn ?rr4_25
       case yr4_25 => (intro w' hS'; obtain ⟨s0, s1, s2, s3⟩ := hS'; go_simp; try rfl)
       simp only [Act.put, actP]
       refine wpHJ_take (v := ?vr4_26) 26 hFa rfl (by kernel_rfl) (fun _ _ _ h => h.elim) (Or.inl ⟨by first | (simp [Region.wanted, yielded]; done) | (simp [Region.wanted, yielded, undef]; done), ?yr4_26⟩) hSn ?rr4_26
       case yr4_26 => (intro w' hS'; obtain ⟨s0, s1, s2, s3⟩ := hS'; go_simp; try rfl)
       simp only [Act.put, actP]
       refine wpHJ_take (v := ?vr4_27) 27 hFa rfl (by kernel_rfl) (fun _ _ _ h => h.elim) (Or.inl ⟨by first | (simp [Region.wanted, yielded]; done) | (simp [Region.wanted, yielded, undef]; done), ?yr4_27⟩) hSn ?rr4_27
       case yr4_27 => (intro w' hS'; obtain ⟨s0, s1, s2, s3⟩ := hS'; go_simp; try rfl)
       simp only [Act.put, actP]
       refine wpHJ_take (v := ?vr4_28) 28 hFa rfl (by kernel_rfl) (fun _ _ _ h => h.elim) (Or.inl ⟨by first | (simp [Region.wanted, yielded]; done) | (simp [Region.wanted, yielded, undef]; done), ?yr4_28⟩) hSn ?rr4_28
       case yr4_28 => (intro w' hS'; obtain ⟨s0, s1, s2, s3⟩ := hS'; go_simp; try rfl)
       simp only [Act.put, actP]
       refine wpHJ_take (v := ?vr4_29) 29 hFa rfl (by kernel_rfl) (fun _ _ _ h => h.elim) (Or.inl ⟨by first | (simp [Region.wanted, yielded]; done) | (simp [Region.wanted, yielded, undef]; done), ?yr4_29⟩) hSn ?rr4_29
       case yr4_29 => (intro w' hS'; obtain ⟨s0, s1, s2, s3⟩ := hS'; go_simp; try rfl)
       simp only [Act.put, actP]
       refine wpHJ_take (v := ?vr4_30) 30 hFa rfl (by kernel_rfl) (fun _ _ _ h => h.elim) (Or.inl ⟨by first | (simp [Region.wanted, yielded]; done) | (simp [Region.wanted, yielded, undef]; done), ?yr4_30⟩) hSn ?rr4_30
       case yr4_30 => (intro w' hS'; obtain ⟨s0, s1, s2, s3⟩ := hS'; go_simp; try rfl)
       simp only [Act.put, actP]
       refine wpHJ_take (v := ?vr4_31) 31 hFa rfl (by kernel_rfl) (fun _ _ _ h => h.elim) (Or.inl ⟨by first | (simp [Region.wanted, yielded]; done) | (simp [Region.wanted, yielded, undef]; done), ?yr4_31⟩) hSn ?rr4_31
       case yr4_31 => (intro w' hS'; obtain ⟨s0, s1, s2, s3⟩ := hS'; go_simp; try rfl)
       simp only [Act.put, actP]
       refine wpHJ_take (v := ?vr4_32) 32 hFa rfl (by kernel_rfl) (fun _ _ _ h => h.elim) (Or.inl ⟨by first | (simp [Region.wanted, yielded]; done) | (simp [Region.wanted, yielded, undef]; done), ?yr4_32⟩) hSn ?rr4_32
       case yr4_32 => (intro w' hS'; obtain ⟨s0, s1, s2, s3⟩ := hS'; go_simp; try rfl)
       simp only [Act.put, actP]
       refine wpHJ_only 33 (by kernel_rfl) rfl ?_
       intro K hK
       go_simp
       refine hK _ _ (.inr (.inr hSn)) ?_
       clear hK K
       refine wpHJ_done (by kernel_rfl) ?_ _
       simp only [onlyN, Exit.then]
       clear hFa
       go_wp2_with fail
       go_meet
       case rel => exact ⟨by rw [HD.out, HN.out]; first | rfl | (simp [fieldB, HDV.out, HNV.out]; done) | (simp [fieldB, HDV.out, HNV.out, HNE.out]; done) | (simp [fieldB, HDV.out, HNV.out, HDE.out]; done) | (simp [fieldB, HDV.out, HNV.out, named_ne HNV.out]; done) | (simp [fieldB, HDV.out, HNV.out, named_ne HDV.out]; done), HB1N.out, HBN.out⟩
      ·have HNE := hid hne
       have e1 : (n == []) = false := beq_eq_false_iff_ne.2 hne
       have e2 : n.isEmpty = false := by cases n with | nil => exact absurd rfl hne | cons a r => rfl
       have e3 : (n != []) = true := by rw [bne, e1]; rfl
       have hFa : ∀ f, Fence.wide.fn f := fun _ => trivial
       refine (wpIn_wide (n := 9)).1 ?_
       refine wpIn_onlyN ?_
       refine wpIn_region_HJ (fun W => W.cell? ⟨w.heap.size, 2, none⟩ = some (.string ⟨d.toArray⟩) ∧ W.cell? ⟨w.heap.size, 3, none⟩ = some (.string ⟨n.toArray⟩) ∧ W.cell? ⟨w.heap.size + 1, 0, none⟩ = some (.bool true) ∧ W.cell? ⟨w.heap.size + 1, 1, none⟩ = some (.bool false)) 34 (by kernel_rfl) ?_
       simp only [List.size_toArray, List.length_cons, List.length_nil, Nat.reduceAdd]
       refine wpHJ_take (v := ?vr5_0) 0 hFa rfl (by kernel_rfl) (fun _ _ _ h => h.elim) (Or.inl ⟨by rfl, ?yr5_0⟩) hS ?rr5_0
       case yr5_0 => (intro w' hS'; obtain ⟨s0, s1, s2, s3⟩ := hS'; go_simp; try rfl)
       simp only [Act.put, actP]
       refine wpHJ_take (v := ?vr5_1) 1 hFa rfl (by kernel_rfl) (fun _ _ _ h => h.elim) (Or.inl ⟨by rfl, ?yr5_1⟩) hS ?rr5_1
       case yr5_1 => (intro w' hS'; obtain ⟨s0, s1, s2, s3⟩ := hS'; go_simp; try rfl)
       simp only [Act.put, actP]
       refine wpHJ_take (v := ?vr5_2) 2 hFa rfl (by kernel_rfl) (fun _ _ _ h => h.elim) (Or.inl ⟨by rfl, ?yr5_2⟩) hS ?rr5_2
       case yr5_2 => (intro w' hS'; obtain ⟨s0, s1, s2, s3⟩ := hS'; go_simp; try rfl)
       simp only [Act.put, actP]
       refine wpHJ_take (v := ?vr5_3) 3 hFa rfl (by kernel_rfl) (fun _ _ _ h => h.elim) (Or.inl ⟨by rfl, ?yr5_3⟩) hS ?rr5_3
       case yr5_3 => (intro w' hS'; obtain ⟨s0, s1, s2, s3⟩ := hS'; go_simp; try rfl)
       simp only [Act.put, actP]
       refine wpHJ_only 4 (by kernel_rfl) rfl ?_
       intro K hK
       go_simp
       (with_reducible refine (callsIn_wide.2 (HND.out _ (HE.out.step ((HBW.out.drew).mono HE.out.size)).e)).mono ?_)
       rintro e wd ⟨rfl, hbd⟩
       rw [HDV.out]
       have hSd : (fun W => W.cell? ⟨w.heap.size, 2, none⟩ = some (.string ⟨d.toArray⟩) ∧ W.cell? ⟨w.heap.size, 3, none⟩ = some (.string ⟨n.toArray⟩) ∧ W.cell? ⟨w.heap.size + 1, 0, none⟩ = some (.bool true) ∧ W.cell? ⟨w.heap.size + 1, 1, none⟩ = some (.bool false)) wd := ⟨(hbd.cell (p := ⟨_, _, none⟩) (cell_size hS.1)).trans hS.1, (hbd.cell (p := ⟨_, _, none⟩) (cell_size hS.2.1)).trans hS.2.1, (hbd.cell (p := ⟨_, _, none⟩) (cell_size hS.2.2.1)).trans hS.2.2.1, (hbd.cell (p := ⟨_, _, none⟩) (cell_size hS.2.2.2)).trans hS.2.2.2⟩
       have HBD := hid (HBW.out.drew.trans (hbd.mono HBW.out.size))
       have HB1D := hid ((show BxL 26 w.heap.size (inL x (.slice pa x.args.length ca)) wc.drew from HB1.out).bel hbd)
       clear hbd hS
       refine hK _ _ (.inr (.inr hSd)) ?_
       clear hK K
       refine wpHJ_take (v := ?vr5_5) 5 hFa rfl (by kernel_rfl) (fun _ _ _ h => h.elim) (Or.inl ⟨by rfl, ?yr5_5⟩) hSd ?rr5_5
       case yr5_5 => (intro w' hS'; obtain ⟨s0, s1, s2, s3⟩ := hS'; go_simp; try rfl)
       simp only [Act.put, actP]
       refine wpHJ_take (v := ?vr5_6) 6 hFa rfl (by kernel_rfl) (fun _ _ _ h => h.elim) (Or.inl ⟨by rfl, ?yr5_6⟩) hSd ?rr5_6
       case yr5_6 => (intro w' hS'; obtain ⟨s0, s1, s2, s3⟩ := hS'; go_simp; try rfl)
       simp only [Act.put, actP]
       refine wpHJ_take (v := ?vr5_7) 7 hFa rfl (by kernel_rfl) (fun _ _ _ h => h.elim) (Or.inl ⟨by first | (simp [Region.wanted, yielded]; done) | (simp [Region.wanted, yielded, undef]; done), ?yr5_7⟩) hSd ?rr5_7
       case yr5_7 => (intro w' hS'; obtain ⟨s0, s1, s2, s3⟩ := hS'; go_simp; try rfl)
       simp only [Act.put, actP]
       refine wpHJ_take (v := ?vr5_8) 8 hFa rfl (by kernel_rfl) (fun _ _ _ h => h.elim) (Or.inl ⟨by first | (simp [Region.wanted, yielded]; done) | (simp [Region.wanted, yielded, undef]; done), ?yr5_8⟩) hSd ?rr5_8
       case yr5_8 => (intro w' hS'; obtain ⟨s0, s1, s2, s3⟩ := hS'; go_simp; try rfl)
       simp only [Act.put, actP]
       refine wpHJ_take (v := ?vr5_9) 9 hFa rfl (by kernel_rfl) (fun _ _ _ h => h.elim) (Or.inl ⟨by first | (simp [Region.wanted, yielded]; done) | (simp [Region.wanted, yielded, undef]; done), ?yr5_9⟩) hSd ?rr5_9
       case yr5_9 => (intro w' hS'; obtain ⟨s0, s1, s2, s3⟩ := hS'; go_simp; try rfl)
       simp only [Act.put, actP]
       refine wpHJ_take (v := ?vr5_10) 10 hFa rfl (by kernel_rfl) (fun _ _ _ h => h.elim) (Or.inl ⟨by first | (simp [Region.wanted, yielded]; done) | (simp [Region.wanted, yielded, undef]; done), ?yr5_10⟩) hSd ?rr5_10
       case yr5_10 => (intro w' hS'; obtain ⟨s0, s1, s2, s3⟩ := hS'; go_simp; try rfl)
       simp only [Act.put, actP]
       refine wpHJ_take (v := undef) 11 hFa rfl (by kernel_rfl) (fun _ _ _ h => h.elim) (Or.inr ⟨by first | (simp [Region.wanted, yielded]; done) | (simp [Region.wanted, yielded, undef]; done), rfl⟩) hSd ?rr5_11
       simp only [Act.put, actP]
       refine wpHJ_take (v := undef) 12 hFa rfl (by kernel_rfl) (fun _ _ _ h => h.elim) (Or.inr ⟨by first | (simp [Region.wanted, yielded]; done) | (simp [Region.wanted, yielded, undef]; done), rfl⟩) hSd ?rr5_12
       simp only [Act.put, actP]
       refine wpHJ_take (v := undef) 13 hFa rfl (by kernel_rfl) (fun _ _ _ h => h.elim) (Or.inr ⟨by first | (simp [Region.wanted, yielded]; done) | (simp [Region.wanted, yielded, undef]; done), rfl⟩) hSd ?rr5_13
       simp only [Act.put, actP]
       refine wpHJ_take (v := ?vr5_14) 14 hFa rfl (by kernel_rfl) (fun _ _ _ h => h.elim) (Or.inl ⟨by first | (simp [Region.wanted, yielded]; done) | (simp [Region.wanted, yielded, undef]; done), ?yr5_14⟩) hSd ?rr5_14
       case yr5_14 => (intro w' hS'; obtain ⟨s0, s1, s2, s3⟩ := hS'; go_simp; try rfl)
       simp only [Act.put, actP]
       refine wpHJ_take (v := ?vr5_15) 15 hFa rfl (by kernel_rfl) (fun _ _ _ h => h.elim) (Or.inl ⟨by rfl, ?yr5_15⟩) hSd ?rr5_15
       case yr5_15 => (intro w' hS'; obtain ⟨s0, s1, s2, s3⟩ := hS'; go_simp; try rfl)
       simp only [Act.put, actP]
       refine wpHJ_take (v := ?vr5_16) 16 hFa rfl (by kernel_rfl) (fun _ _ _ h => h.elim) (Or.inl ⟨by rfl, ?yr5_16⟩) hSd ?rr5_16
       case yr5_16 => (intro w' hS'; obtain ⟨s0, s1, s2, s3⟩ := hS'; go_simp; try rfl)
       simp only [Act.put, actP]
       refine wpHJ_take (v := ?vr5_17) 17 hFa rfl (by kernel_rfl) (fun _ _ _ h => h.elim) (Or.inl ⟨by first | (simp [Region.wanted, yielded]; done) | (simp [Region.wanted, yielded, undef]; done), ?yr5_17⟩) hSd ?rr5_17
       case yr5_17 => (intro w' hS'; obtain ⟨s0, s1, s2, s3⟩ := hS'; go_simp; try rfl)
       simp only [Act.put, actP]
       refine wpHJ_take (v := ?vr5_18) 18 hFa rfl (by kernel_rfl) (fun _ _ _ h => h.elim) (Or.inl ⟨by first | (simp [Region.wanted, yielded]; done) | (simp [Region.wanted, yielded, undef]; done), ?yr5_18⟩) hSd ?rr5_18
       case yr5_18 => (intro w' hS'; obtain ⟨s0, s1, s2, s3⟩ := hS'; go_simp; try rfl)
       simp only [Act.put, actP]
       refine wpHJ_take (v := ?vr5_19) 19 hFa rfl (by kernel_rfl) (fun _ _ _ h => h.elim) (Or.inl ⟨by first | (simp [Region.wanted, yielded]; done) | (simp [Region.wanted, yielded, undef]; done), ?yr5_19⟩) hSd ?rr5_19
       case yr5_19 => (intro w' hS'; obtain ⟨s0, s1, s2, s3⟩ := hS'; go_simp; try rfl)
       simp only [Act.put, actP]
       refine wpHJ_take (v := ?vr5_20) 20 hFa rfl (by kernel_rfl) (fun _ _ _ h => h.elim) (Or.inl ⟨by first | (simp [Region.wanted, yielded]; done) | (simp [Region.wanted, yielded, undef]; done), ?yr5_20⟩) hSd ?rr5_20
       case yr5_20 => (intro w' hS'; obtain ⟨s0, s1, s2, s3⟩ := hS'; go_simp; try rfl)
       simp only [Act.put, actP]
       refine wpHJ_only 21 (by kernel_rfl) rfl ?_
       intro K hK
       rw [if_pos (by first | (simp [Region.wanted, yielded]; done) | (simp [Region.wanted, yielded, undef]; done))]
       go_simp
       (with_reducible refine (callsIn_wide.2 (HNN.out _ (HE.out.step (HBD.out.mono HE.out.size)).e)).mono ?_)
       rintro e wn ⟨rfl, hbn⟩
       rw [HNV.out]
       have hSn : (fun W => W.cell? ⟨w.heap.size, 2, none⟩ = some (.string ⟨d.toArray⟩) ∧ W.cell? ⟨w.heap.size, 3, none⟩ = some (.string ⟨n.toArray⟩) ∧ W.cell? ⟨w.heap.size + 1, 0, none⟩ = some (.bool true) ∧ W.cell? ⟨w.heap.size + 1, 1, none⟩ = some (.bool false)) wn := ⟨(hbn.cell (p := ⟨_, _, none⟩) (cell_size hSd.1)).trans hSd.1, (hbn.cell (p := ⟨_, _, none⟩) (cell_size hSd.2.1)).trans hSd.2.1, (hbn.cell (p := ⟨_, _, none⟩) (cell_size hSd.2.2.1)).trans hSd.2.2.1, (hbn.cell (p := ⟨_, _, none⟩) (cell_size hSd.2.2.2)).trans hSd.2.2.2⟩
       have HBN := hid (HBD.out.trans (hbn.mono HBD.out.size))
       have HB1N := hid (HB1D.out.bel hbn)
       clear hbn hSd
       refine hK _ _ (.inr (.inr hSn)) ?_
       clear hK K
       refine wpHJ_take (v := ?vr5_22) 22 hFa rfl (by kernel_rfl) (fun _ _ _ h => h.elim) (Or.inl ⟨by first | (simp [Region.wanted, yielded]; done) | (simp [Region.wanted, yielded, undef]; done), ?yr5_22⟩) hSn ?rr5_22
       case yr5_22 => (intro w' hS'; obtain ⟨s0, s1, s2, s3⟩ := hS'; go_simp; try rfl)
       simp only [Act.put, actP]
       refine wpHJ_take (v := ?vr5_23) 23 hFa rfl (by kernel_rfl) (fun _ _ _ h => h.elim) (Or.inl ⟨by rfl, ?yr5_23⟩) hSn ?rr5_23
       case yr5_23 => (intro w' hS'; obtain ⟨s0, s1, s2, s3⟩ := hS'; go_simp; try rfl)
       simp only [Act.put, actP]
       refine wpHJ_take (v := ?vr5_24) 24 hFa rfl (by kernel_rfl) (fun _ _ _ h => h.elim) (Or.inl ⟨by rfl, ?yr5_24⟩) hSn ?rr5_24
       case yr5_24 => (intro w' hS'; obtain ⟨s0, s1, s2, s3⟩ := hS'; go_simp; try rfl)
       simp only [Act.put, actP]
       refine wpHJ_take (v := ?vr5_25) 25 hFa rfl (by kernel_rfl) (fun _ _ _ h => h.elim) (Or.inl ⟨by first | (simp [Region.wanted, yielded]; done) | (simp [Region.wanted, yielded, undef]; done), ?yr5_25⟩) hSn ?rr5_25
       case yr5_25 => (intro w' hS'; obtain ⟨s0, s1, s2, s3⟩ := hS'; go_simp; try rfl)
       simp only [Act.put, actP]
       refine wpHJ_take (v := ?vr5_26) 26 hFa rfl (by kernel_rfl) (fun _ _ _ h => h.elim) (Or.inl ⟨by first | (simp [Region.wanted, yielded]; done) | (simp [Region.wanted, yielded, undef]; done), ?yr5_26⟩) hSn ?rr5_26
       case yr5_26 => (intro w' hS'; obtain ⟨s0, s1, s2, s3⟩ := hS'; go_simp; try rfl)
       simp only [Act.put, actP]
       refine wpHJ_take (v := ?vr5_27) 27 hFa rfl (by kernel_rfl) (fun _ _ _ h => h.elim) (Or.inl ⟨by first | (simp [Region.wanted, yielded]; done) | (simp [Region.wanted, yielded, undef]; done), ?yr5_27⟩) hSn ?rr5_27
       case yr5_27 => (intro w' hS'; obtain ⟨s0, s1, s2, s3⟩ := hS'; go_simp; try rfl)
       simp only [Act.put, actP]
       refine wpHJ_take (v := ?vr5_28) 28 hFa rfl (by kernel_rfl) (fun _ _ _ h => h.elim) (Or.inl ⟨by first | (simp [Region.wanted, yielded]; done) | (simp [Region.wanted, yielded, undef]; done), ?yr5_28⟩) hSn ?rr5_28
       case yr5_28 => (intro w' hS'; obtain ⟨s0, s1, s2, s3⟩ := hS'; go_simp; try rfl)
       simp only [Act.put, actP]
       refine wpHJ_take (v := ?vr5_29) 29 hFa rfl (by kernel_rfl) (fun _ _ _ h => h.elim) (Or.inl ⟨by first | (simp [Region.wanted, yielded]; done) | (simp [Region.wanted, yielded, undef]; done), ?yr5_29⟩) hSn ?rr5_29
       case yr5_29 => (intro w' hS'; obtain ⟨s0, s1, s2, s3⟩ := hS'; go_simp; try rfl)
       simp only [Act.put, actP]
       refine wpHJ_take (v := ?vr5_30) 30 hFa rfl (by kernel_rfl) (fun _ _ _ h => h.elim) (Or.inl ⟨by first | (simp [Region.wanted, yielded]; done) | (simp [Region.wanted, yielded, undef]; done), ?yr5_30⟩) hSn ?rr5_30
       case yr5_30 => (intro w' hS'; obtain ⟨s0, s1, s2, s3⟩ := hS'; go_simp; try rfl)
       simp only [Act.put, actP]
       refine wpHJ_take (v := ?vr5_31) 31 hFa rfl (by kernel_rfl) (fun _ _ _ h => h.elim) (Or.inl ⟨by first | (simp [Region.wanted, yielded]; done) | (simp [Region.wanted, yielded, undef]; done), ?yr5_31⟩) hSn ?rr5_31
       case yr5_31 => (intro w' hS'; obtain ⟨s0, s1, s2, s3⟩ := hS'; go_simp; try rfl)
       simp only [Act.put, actP]
       refine wpHJ_take (v := ?vr5_32) 32 hFa rfl (by kernel_rfl) (fun _ _ _ h => h.elim) (Or.inl ⟨by first | (simp [Region.wanted, yielded]; done) | (simp [Region.wanted, yielded, undef]; done), ?yr5_32⟩) hSn ?rr5_32
       case yr5_32 => (intro w' hS'; obtain ⟨s0, s1, s2, s3⟩ := hS'; go_simp; try rfl)
       simp only [Act.put, actP]
       refine wpHJ_only 33 (by kernel_rfl) rfl ?_
       intro K hK
       go_simp
       refine hK _ _ (.inr (.inr hSn)) ?_
       clear hK K
       refine wpHJ_done (by kernel_rfl) ?_ _
       simp only [onlyN, Exit.then]
       clear hFa
       go_wp2_with fail
       go_meet
       case rel => exact ⟨by rw [HD.out, HN.out]; first | rfl | (simp [fieldB, HDV.out, HNV.out]; done) | (simp [fieldB, HDV.out, HNV.out, HNE.out]; done) | (simp [fieldB, HDV.out, HNV.out, HDE.out]; done) | (simp [fieldB, HDV.out, HNV.out, named_ne HNV.out]; done) | (simp [fieldB, HDV.out, HNV.out, named_ne HDV.out]; done), HB1N.out, HBN.out⟩
   | false =>
    have HDV := hid hdv; clear hdv
    have HNV := hid (rfl : namedB n = namedB n)
    have hFa : ∀ f, Fence.wide.fn f := fun _ => trivial
    refine (wpIn_wide (n := 9)).1 ?_
    refine wpIn_onlyN ?_
    refine wpIn_region_HJ (fun W => W.cell? ⟨w.heap.size, 2, none⟩ = some (.string ⟨d.toArray⟩) ∧ W.cell? ⟨w.heap.size, 3, none⟩ = some (.string ⟨n.toArray⟩) ∧ W.cell? ⟨w.heap.size + 1, 0, none⟩ = some (.bool true) ∧ W.cell? ⟨w.heap.size + 1, 1, none⟩ = some (.bool fn)) 34 (by kernel_rfl) ?_
    simp only [List.size_toArray, List.length_cons, List.length_nil, Nat.reduceAdd]
    refine wpHJ_take (v := ?vr6_0) 0 hFa rfl (by kernel_rfl) (fun _ _ _ h => h.elim) (Or.inl ⟨by rfl, ?yr6_0⟩) hS ?rr6_0
    case yr6_0 => (intro w' hS'; obtain ⟨s0, s1, s2, s3⟩ := hS'; go_simp; try rfl)
    simp only [Act.put, actP]
    refine wpHJ_take (v := ?vr6_1) 1 hFa rfl (by kernel_rfl) (fun _ _ _ h => h.elim) (Or.inl ⟨by rfl, ?yr6_1⟩) hS ?rr6_1
    case yr6_1 => (intro w' hS'; obtain ⟨s0, s1, s2, s3⟩ := hS'; go_simp; try rfl)
    simp only [Act.put, actP]
    refine wpHJ_take (v := ?vr6_2) 2 hFa rfl (by kernel_rfl) (fun _ _ _ h => h.elim) (Or.inl ⟨by rfl, ?yr6_2⟩) hS ?rr6_2
    case yr6_2 => (intro w' hS'; obtain ⟨s0, s1, s2, s3⟩ := hS'; go_simp; try rfl)
    simp only [Act.put, actP]
    refine wpHJ_take (v := ?vr6_3) 3 hFa rfl (by kernel_rfl) (fun _ _ _ h => h.elim) (Or.inl ⟨by rfl, ?yr6_3⟩) hS ?rr6_3
    case yr6_3 => (intro w' hS'; obtain ⟨s0, s1, s2, s3⟩ := hS'; go_simp; try rfl)
    simp only [Act.put, actP]
    refine wpHJ_only 4 (by kernel_rfl) rfl ?_
    intro K hK
    go_simp
    (with_reducible refine (callsIn_wide.2 (HND.out _ (HE.out.step ((HBW.out.drew).mono HE.out.size)).e)).mono ?_)
    rintro e wd ⟨rfl, hbd⟩
    rw [HDV.out]
    have hSd : (fun W => W.cell? ⟨w.heap.size, 2, none⟩ = some (.string ⟨d.toArray⟩) ∧ W.cell? ⟨w.heap.size, 3, none⟩ = some (.string ⟨n.toArray⟩) ∧ W.cell? ⟨w.heap.size + 1, 0, none⟩ = some (.bool true) ∧ W.cell? ⟨w.heap.size + 1, 1, none⟩ = some (.bool fn)) wd := ⟨(hbd.cell (p := ⟨_, _, none⟩) (cell_size hS.1)).trans hS.1, (hbd.cell (p := ⟨_, _, none⟩) (cell_size hS.2.1)).trans hS.2.1, (hbd.cell (p := ⟨_, _, none⟩) (cell_size hS.2.2.1)).trans hS.2.2.1, (hbd.cell (p := ⟨_, _, none⟩) (cell_size hS.2.2.2)).trans hS.2.2.2⟩
    have HBD := hid (HBW.out.drew.trans (hbd.mono HBW.out.size))
    have HB1D := hid ((show BxL 26 w.heap.size (inL x (.slice pa x.args.length ca)) wc.drew from HB1.out).bel hbd)
    clear hbd hS
    refine hK _ _ (.inr (.inr hSd)) ?_
    clear hK K
    refine wpHJ_take (v := ?vr6_5) 5 hFa rfl (by kernel_rfl) (fun _ _ _ h => h.elim) (Or.inl ⟨by rfl, ?yr6_5⟩) hSd ?rr6_5
    case yr6_5 => (intro w' hS'; obtain ⟨s0, s1, s2, s3⟩ := hS'; go_simp; try rfl)
    simp only [Act.put, actP]
    refine wpHJ_take (v := ?vr6_6) 6 hFa rfl (by kernel_rfl) (fun _ _ _ h => h.elim) (Or.inl ⟨by rfl, ?yr6_6⟩) hSd ?rr6_6
    case yr6_6 => (intro w' hS'; obtain ⟨s0, s1, s2, s3⟩ := hS'; go_simp; try rfl)
    simp only [Act.put, actP]
    refine wpHJ_take (v := undef) 7 hFa rfl (by kernel_rfl) (fun _ _ _ h => h.elim) (Or.inr ⟨by first | (simp [Region.wanted, yielded]; done) | (simp [Region.wanted, yielded, undef]; done), rfl⟩) hSd ?rr6_7
    simp only [Act.put, actP]
    refine wpHJ_take (v := undef) 8 hFa rfl (by kernel_rfl) (fun _ _ _ h => h.elim) (Or.inr ⟨by first | (simp [Region.wanted, yielded]; done) | (simp [Region.wanted, yielded, undef]; done), rfl⟩) hSd ?rr6_8
    simp only [Act.put, actP]
    refine wpHJ_take (v := undef) 9 hFa rfl (by kernel_rfl) (fun _ _ _ h => h.elim) (Or.inr ⟨by first | (simp [Region.wanted, yielded]; done) | (simp [Region.wanted, yielded, undef]; done), rfl⟩) hSd ?rr6_9
    simp only [Act.put, actP]
    refine wpHJ_take (v := undef) 10 hFa rfl (by kernel_rfl) (fun _ _ _ h => h.elim) (Or.inr ⟨by first | (simp [Region.wanted, yielded]; done) | (simp [Region.wanted, yielded, undef]; done), rfl⟩) hSd ?rr6_10
    simp only [Act.put, actP]
    refine wpHJ_take (v := undef) 11 hFa rfl (by kernel_rfl) (fun _ _ _ h => h.elim) (Or.inr ⟨by first | (simp [Region.wanted, yielded]; done) | (simp [Region.wanted, yielded, undef]; done), rfl⟩) hSd ?rr6_11
    simp only [Act.put, actP]
    refine wpHJ_take (v := undef) 12 hFa rfl (by kernel_rfl) (fun _ _ _ h => h.elim) (Or.inr ⟨by first | (simp [Region.wanted, yielded]; done) | (simp [Region.wanted, yielded, undef]; done), rfl⟩) hSd ?rr6_12
    simp only [Act.put, actP]
    refine wpHJ_take (v := undef) 13 hFa rfl (by kernel_rfl) (fun _ _ _ h => h.elim) (Or.inr ⟨by first | (simp [Region.wanted, yielded]; done) | (simp [Region.wanted, yielded, undef]; done), rfl⟩) hSd ?rr6_13
    simp only [Act.put, actP]
    refine wpHJ_take (v := undef) 14 hFa rfl (by kernel_rfl) (fun _ _ _ h => h.elim) (Or.inr ⟨by first | (simp [Region.wanted, yielded]; done) | (simp [Region.wanted, yielded, undef]; done), rfl⟩) hSd ?rr6_14
    simp only [Act.put, actP]
    refine wpHJ_take (v := ?vr6_15) 15 hFa rfl (by kernel_rfl) (fun _ _ _ h => h.elim) (Or.inl ⟨by rfl, ?yr6_15⟩) hSd ?rr6_15
    case yr6_15 => (intro w' hS'; obtain ⟨s0, s1, s2, s3⟩ := hS'; go_simp; try rfl)
    simp only [Act.put, actP]
    refine wpHJ_take (v := ?vr6_16) 16 hFa rfl (by kernel_rfl) (fun _ _ _ h => h.elim) (Or.inl ⟨by rfl, ?yr6_16⟩) hSd ?rr6_16
    case yr6_16 => (intro w' hS'; obtain ⟨s0, s1, s2, s3⟩ := hS'; go_simp; try rfl)
    simp only [Act.put, actP]
    refine wpHJ_take (v := undef) 17 hFa rfl (by kernel_rfl) (fun _ _ _ h => h.elim) (Or.inr ⟨by first | (simp [Region.wanted, yielded]; done) | (simp [Region.wanted, yielded, undef]; done), rfl⟩) hSd ?rr6_17
    simp only [Act.put, actP]
    refine wpHJ_take (v := undef) 18 hFa rfl (by kernel_rfl) (fun _ _ _ h => h.elim) (Or.inr ⟨by first | (simp [Region.wanted, yielded]; done) | (simp [Region.wanted, yielded, undef]; done), rfl⟩) hSd ?rr6_18
    simp only [Act.put, actP]
    refine wpHJ_take (v := undef) 19 hFa rfl (by kernel_rfl) (fun _ _ _ h => h.elim) (Or.inr ⟨by first | (simp [Region.wanted, yielded]; done) | (simp [Region.wanted, yielded, undef]; done), rfl⟩) hSd ?rr6_19
    simp only [Act.put, actP]
    refine wpHJ_take (v := undef) 20 hFa rfl (by kernel_rfl) (fun _ _ _ h => h.elim) (Or.inr ⟨by first | (simp [Region.wanted, yielded]; done) | (simp [Region.wanted, yielded, undef]; done), rfl⟩) hSd ?rr6_20
    simp only [Act.put, actP]
    refine wpHJ_only 21 (by kernel_rfl) rfl ?_
    intro K hK
    rw [if_neg (by first | (simp [Region.wanted, yielded]; done) | (simp [Region.wanted, yielded, undef]; done))]
    go_simp
    refine hK _ _ (.inr (.inr hSd)) ?_
    clear hK K
    refine wpHJ_take (v := undef) 22 hFa rfl (by kernel_rfl) (fun _ _ _ h => h.elim) (Or.inr ⟨by first | (simp [Region.wanted, yielded]; done) | (simp [Region.wanted, yielded, undef]; done), rfl⟩) hSd ?rr6_22
    simp only [Act.put, actP]
    refine wpHJ_take (v := ?vr6_23) 23 hFa rfl (by kernel_rfl) (fun _ _ _ h => h.elim) (Or.inl ⟨by rfl, ?yr6_23⟩) hSd ?rr6_23
    case yr6_23 => (intro w' hS'; obtain ⟨s0, s1, s2, s3⟩ := hS'; go_simp; try rfl)
    simp only [Act.put, actP]
    refine wpHJ_take (v := ?vr6_24) 24 hFa rfl (by kernel_rfl) (fun _ _ _ h => h.elim) (Or.inl ⟨by rfl, ?yr6_24⟩) hSd ?rr6_24
    case yr6_24 => (intro w' hS'; obtain ⟨s0, s1, s2, s3⟩ := hS'; go_simp; try rfl)
    simp only [Act.put, actP]
    refine wpHJ_take (v := undef) 25 hFa rfl (by kernel_rfl) (fun _ _ _ h => h.elim) (Or.inr ⟨by first | (simp [Region.wanted, yielded]; done) | (simp [Region.wanted, yielded, undef]; done), rfl⟩) hSd ?rr6_25
    simp only [Act.put, actP]
    refine wpHJ_take (v := undef) 26 hFa rfl (by kernel_rfl) (fun _ _ _ h => h.elim) (Or.inr ⟨by first | (simp [Region.wanted, yielded]; done) | (simp [Region.wanted, yielded, undef]; done), rfl⟩) hSd ?rr6_26
    simp only [Act.put, actP]
    refine wpHJ_take (v := undef) 27 hFa rfl (by kernel_rfl) (fun _ _ _ h => h.elim) (Or.inr ⟨by first | (simp [Region.wanted, yielded]; done) | (simp [Region.wanted, yielded, undef]; done), rfl⟩) hSd ?rr6_27
    simp only [Act.put, actP]
    refine wpHJ_take (v := undef) 28 hFa rfl (by kernel_rfl) (fun _ _ _ h => h.elim) (Or.inr ⟨by first | (simp [Region.wanted, yielded]; done) | (simp [Region.wanted, yielded, undef]; done), rfl⟩) hSd ?rr6_28
    simp only [Act.put, actP]
    refine wpHJ_take (v := undef) 29 hFa rfl (by kernel_rfl) (fun _ _ _ h => h.elim) (Or.inr ⟨by first | (simp [Region.wanted, yielded]; done) | (simp [Region.wanted, yielded, undef]; done), rfl⟩) hSd ?rr6_29
    simp only [Act.put, actP]
    refine wpHJ_take (v := undef) 30 hFa rfl (by kernel_rfl) (fun _ _ _ h => h.elim) (Or.inr ⟨by first | (simp [Region.wanted, yielded]; done) | (simp [Region.wanted, yielded, undef]; done), rfl⟩) hSd ?rr6_30
    simp only [Act.put, actP]
    refine wpHJ_take (v := undef) 31 hFa rfl (by kernel_rfl) (fun _ _ _ h => h.elim) (Or.inr ⟨by first | (simp [Region.wanted, yielded]; done) | (simp [Region.wanted, yielded, undef]; done), rfl⟩) hSd ?rr6_31
    simp only [Act.put, actP]
    refine wpHJ_take (v := undef) 32 hFa rfl (by kernel_rfl) (fun _ _ _ h => h.elim) (Or.inr ⟨by first | (simp [Region.wanted, yielded]; done) | (simp [Region.wanted, yielded, undef]; done), rfl⟩) hSd ?rr6_32
    simp only [Act.put, actP]
    refine wpHJ_only 33 (by kernel_rfl) rfl ?_
    intro K hK
    go_simp
    refine hK _ _ (.inr (.inr hSd)) ?_
    clear hK K
    refine wpHJ_done (by kernel_rfl) ?_ _
    simp only [onlyN, Exit.then]
    clear hFa
    go_wp2_with fail
    go_meet
    case rel => exact ⟨by rw [HD.out, HN.out]; first | rfl | (simp [fieldB, HDV.out, HNV.out]; done) | (simp [fieldB, HDV.out, HNV.out, HNE.out]; done) | (simp [fieldB, HDV.out, HNV.out, HDE.out]; done) | (simp [fieldB, HDV.out, HNV.out, named_ne HNV.out]; done) | (simp [fieldB, HDV.out, HNV.out, named_ne HDV.out]; done), HB1D.out, HBD.out⟩
  | false =>
   cases hdv : namedB d with
   | true =>
    have HDV := hid hdv; clear hdv
    have HNV := hid (rfl : namedB n = namedB n)
    have hFa : ∀ f, Fence.wide.fn f := fun _ => trivial
    refine (wpIn_wide (n := 9)).1 ?_
    refine wpIn_onlyN ?_
    refine wpIn_region_HJ (fun W => W.cell? ⟨w.heap.size, 2, none⟩ = some (.string ⟨d.toArray⟩) ∧ W.cell? ⟨w.heap.size, 3, none⟩ = some (.string ⟨n.toArray⟩) ∧ W.cell? ⟨w.heap.size + 1, 0, none⟩ = some (.bool false) ∧ W.cell? ⟨w.heap.size + 1, 1, none⟩ = some (.bool fn)) 34 (by kernel_rfl) ?_
    simp only [List.size_toArray, List.length_cons, List.length_nil, Nat.reduceAdd]
    refine wpHJ_take (v := ?vr7_0) 0 hFa rfl (by kernel_rfl) (fun _ _ _ h => h.elim) (Or.inl ⟨by rfl, ?yr7_0⟩) hS ?rr7_0
    case yr7_0 => (intro w' hS'; obtain ⟨s0, s1, s2, s3⟩ := hS'; go_simp; try rfl)
    simp only [Act.put, actP]
    refine wpHJ_take (v := ?vr7_1) 1 hFa rfl (by kernel_rfl) (fun _ _ _ h => h.elim) (Or.inl ⟨by rfl, ?yr7_1⟩) hS ?rr7_1
    case yr7_1 => (intro w' hS'; obtain ⟨s0, s1, s2, s3⟩ := hS'; go_simp; try rfl)
    simp only [Act.put, actP]
    refine wpHJ_take (v := ?vr7_2) 2 hFa rfl (by kernel_rfl) (fun _ _ _ h => h.elim) (Or.inl ⟨by rfl, ?yr7_2⟩) hS ?rr7_2
    case yr7_2 => (intro w' hS'; obtain ⟨s0, s1, s2, s3⟩ := hS'; go_simp; try rfl)
    simp only [Act.put, actP]
    refine wpHJ_take (v := ?vr7_3) 3 hFa rfl (by kernel_rfl) (fun _ _ _ h => h.elim) (Or.inl ⟨by rfl, ?yr7_3⟩) hS ?rr7_3
    case yr7_3 => (intro w' hS'; obtain ⟨s0, s1, s2, s3⟩ := hS'; go_simp; try rfl)
    simp only [Act.put, actP]
    refine wpHJ_only 4 (by kernel_rfl) rfl ?_
    intro K hK
    go_simp
    (with_reducible refine (callsIn_wide.2 (HND.out _ (HE.out.step ((HBW.out.drew).mono HE.out.size)).e)).mono ?_)
    rintro e wd ⟨rfl, hbd⟩
    rw [HDV.out]
    have hSd : (fun W => W.cell? ⟨w.heap.size, 2, none⟩ = some (.string ⟨d.toArray⟩) ∧ W.cell? ⟨w.heap.size, 3, none⟩ = some (.string ⟨n.toArray⟩) ∧ W.cell? ⟨w.heap.size + 1, 0, none⟩ = some (.bool false) ∧ W.cell? ⟨w.heap.size + 1, 1, none⟩ = some (.bool fn)) wd := ⟨(hbd.cell (p := ⟨_, _, none⟩) (cell_size hS.1)).trans hS.1, (hbd.cell (p := ⟨_, _, none⟩) (cell_size hS.2.1)).trans hS.2.1, (hbd.cell (p := ⟨_, _, none⟩) (cell_size hS.2.2.1)).trans hS.2.2.1, (hbd.cell (p := ⟨_, _, none⟩) (cell_size hS.2.2.2)).trans hS.2.2.2⟩
    have HBD := hid (HBW.out.drew.trans (hbd.mono HBW.out.size))
    have HB1D := hid ((show BxL 26 w.heap.size (inL x (.slice pa x.args.length ca)) wc.drew from HB1.out).bel hbd)
    clear hbd hS
    refine hK _ _ (.inr (.inr hSd)) ?_
    clear hK K
    refine wpHJ_take (v := ?vr7_5) 5 hFa rfl (by kernel_rfl) (fun _ _ _ h => h.elim) (Or.inl ⟨by rfl, ?yr7_5⟩) hSd ?rr7_5
    case yr7_5 => (intro w' hS'; obtain ⟨s0, s1, s2, s3⟩ := hS'; go_simp; try rfl)
    simp only [Act.put, actP]
    refine wpHJ_take (v := ?vr7_6) 6 hFa rfl (by kernel_rfl) (fun _ _ _ h => h.elim) (Or.inl ⟨by rfl, ?yr7_6⟩) hSd ?rr7_6
    case yr7_6 => (intro w' hS'; obtain ⟨s0, s1, s2, s3⟩ := hS'; go_simp; try rfl)
    simp only [Act.put, actP]
    refine wpHJ_take (v := undef) 7 hFa rfl (by kernel_rfl) (fun _ _ _ h => h.elim) (Or.inr ⟨by first | (simp [Region.wanted, yielded]; done) | (simp [Region.wanted, yielded, undef]; done), rfl⟩) hSd ?rr7_7
    simp only [Act.put, actP]
    refine wpHJ_take (v := undef) 8 hFa rfl (by kernel_rfl) (fun _ _ _ h => h.elim) (Or.inr ⟨by first | (simp [Region.wanted, yielded]; done) | (simp [Region.wanted, yielded, undef]; done), rfl⟩) hSd ?rr7_8
    simp only [Act.put, actP]
    refine wpHJ_take (v := undef) 9 hFa rfl (by kernel_rfl) (fun _ _ _ h => h.elim) (Or.inr ⟨by first | (simp [Region.wanted, yielded]; done) | (simp [Region.wanted, yielded, undef]; done), rfl⟩) hSd ?rr7_9
    simp only [Act.put, actP]
    refine wpHJ_take (v := undef) 10 hFa rfl (by kernel_rfl) (fun _ _ _ h => h.elim) (Or.inr ⟨by first | (simp [Region.wanted, yielded]; done) | (simp [Region.wanted, yielded, undef]; done), rfl⟩) hSd ?rr7_10
    simp only [Act.put, actP]
    refine wpHJ_take (v := undef) 11 hFa rfl (by kernel_rfl) (fun _ _ _ h => h.elim) (Or.inr ⟨by first | (simp [Region.wanted, yielded]; done) | (simp [Region.wanted, yielded, undef]; done), rfl⟩) hSd ?rr7_11
    simp only [Act.put, actP]
    refine wpHJ_take (v := undef) 12 hFa rfl (by kernel_rfl) (fun _ _ _ h => h.elim) (Or.inr ⟨by first | (simp [Region.wanted, yielded]; done) | (simp [Region.wanted, yielded, undef]; done), rfl⟩) hSd ?rr7_12
    simp only [Act.put, actP]
    refine wpHJ_take (v := undef) 13 hFa rfl (by kernel_rfl) (fun _ _ _ h => h.elim) (Or.inr ⟨by first | (simp [Region.wanted, yielded]; done) | (simp [Region.wanted, yielded, undef]; done), rfl⟩) hSd ?rr7_13
    simp only [Act.put, actP]
    refine wpHJ_take (v := undef) 14 hFa rfl (by kernel_rfl) (fun _ _ _ h => h.elim) (Or.inr ⟨by first | (simp [Region.wanted, yielded]; done) | (simp [Region.wanted, yielded, undef]; done), rfl⟩) hSd ?rr7_14
    simp only [Act.put, actP]
    refine wpHJ_take (v := ?vr7_15) 15 hFa rfl (by kernel_rfl) (fun _ _ _ h => h.elim) (Or.inl ⟨by rfl, ?yr7_15⟩) hSd ?rr7_15
    case yr7_15 => (intro w' hS'; obtain ⟨s0, s1, s2, s3⟩ := hS'; go_simp; try rfl)
    simp only [Act.put, actP]
    refine wpHJ_take (v := ?vr7_16) 16 hFa rfl (by kernel_rfl) (fun _ _ _ h => h.elim) (Or.inl ⟨by rfl, ?yr7_16⟩) hSd ?rr7_16
    case yr7_16 => (intro w' hS'; obtain ⟨s0, s1, s2, s3⟩ := hS'; go_simp; try rfl)
    simp only [Act.put, actP]
    refine wpHJ_take (v := undef) 17 hFa rfl (by kernel_rfl) (fun _ _ _ h => h.elim) (Or.inr ⟨by first | (simp [Region.wanted, yielded]; done) | (simp [Region.wanted, yielded, undef]; done), rfl⟩) hSd ?rr7_17
    simp only [Act.put, actP]
    refine wpHJ_take (v := undef) 18 hFa rfl (by kernel_rfl) (fun _ _ _ h => h.elim) (Or.inr ⟨by first | (simp [Region.wanted, yielded]; done) | (simp [Region.wanted, yielded, undef]; done), rfl⟩) hSd ?rr7_18
    simp only [Act.put, actP]
    refine wpHJ_take (v := undef) 19 hFa rfl (by kernel_rfl) (fun _ _ _ h => h.elim) (Or.inr ⟨by first | (simp [Region.wanted, yielded]; done) | (simp [Region.wanted, yielded, undef]; done), rfl⟩) hSd ?rr7_19
    simp only [Act.put, actP]
    refine wpHJ_take (v := undef) 20 hFa rfl (by kernel_rfl) (fun _ _ _ h => h.elim) (Or.inr ⟨by first | (simp [Region.wanted, yielded]; done) | (simp [Region.wanted, yielded, undef]; done), rfl⟩) hSd ?rr7_20
    simp only [Act.put, actP]
    refine wpHJ_only 21 (by kernel_rfl) rfl ?_
    intro K hK
    rw [if_neg (by first | (simp [Region.wanted, yielded]; done) | (simp [Region.wanted, yielded, undef]; done))]
    go_simp
    refine hK _ _ (.inr (.inr hSd)) ?_
    clear hK K
    refine wpHJ_take (v := undef) 22 hFa rfl (by kernel_rfl) (fun _ _ _ h => h.elim) (Or.inr ⟨by first | (simp [Region.wanted, yielded]; done) | (simp [Region.wanted, yielded, undef]; done), rfl⟩) hSd ?rr7_22
    simp only [Act.put, actP]
    refine wpHJ_take (v := ?vr7_23) 23 hFa rfl (by kernel_rfl) (fun _ _ _ h => h.elim) (Or.inl ⟨by rfl, ?yr7_23⟩) hSd ?rr7_23
    case yr7_23 => (intro w' hS'; obtain ⟨s0, s1, s2, s3⟩ := hS'; go_simp; try rfl)
    simp only [Act.put, actP]
    refine wpHJ_take (v := ?vr7_24) 24 hFa rfl (by kernel_rfl) (fun _ _ _ h => h.elim) (Or.inl ⟨by rfl, ?yr7_24⟩) hSd ?rr7_24
    case yr7_24 => (intro w' hS'; obtain ⟨s0, s1, s2, s3⟩ := hS'; go_simp; try rfl)
    simp only [Act.put, actP]
    refine wpHJ_take (v := undef) 25 hFa rfl (by kernel_rfl) (fun _ _ _ h => h.elim) (Or.inr ⟨by first | (simp [Region.wanted, yielded]; done) | (simp [Region.wanted, yielded, undef]; done), rfl⟩) hSd ?rr7_25
    simp only [Act.put, actP]
    refine wpHJ_take (v := undef) 26 hFa rfl (by kernel_rfl) (fun _ _ _ h => h.elim) (Or.inr ⟨by first | (simp [Region.wanted, yielded]; done) | (simp [Region.wanted, yielded, undef]; done), rfl⟩) hSd ?rr7_26
    simp only [Act.put, actP]
    refine wpHJ_take (v := undef) 27 hFa rfl (by kernel_rfl) (fun _ _ _ h => h.elim) (Or.inr ⟨by first | (simp [Region.wanted, yielded]; done) | (simp [Region.wanted, yielded, undef]; done), rfl⟩) hSd ?rr7_27
    simp only [Act.put, actP]
    refine wpHJ_take (v := undef) 28 hFa rfl (by kernel_rfl) (fun _ _ _ h => h.elim) (Or.inr ⟨by first | (simp [Region.wanted, yielded]; done) | (simp [Region.wanted, yielded, undef]; done), rfl⟩) hSd ?rr7_28
    simp only [Act.put, actP]
    refine wpHJ_take (v := undef) 29 hFa rfl (by kernel_rfl) (fun _ _ _ h => h.elim) (Or.inr ⟨by first | (simp [Region.wanted, yielded]; done) | (simp [Region.wanted, yielded, undef]; done), rfl⟩) hSd ?rr7_29
    simp only [Act.put, actP]
    refine wpHJ_take (v := undef) 30 hFa rfl (by kernel_rfl) (fun _ _ _ h => h.elim) (Or.inr ⟨by first | (simp [Region.wanted, yielded]; done) | (simp [Region.wanted, yielded, undef]; done), rfl⟩) hSd ?rr7_30
    simp only [Act.put, actP]
    refine wpHJ_take (v := undef) 31 hFa rfl (by kernel_rfl) (fun _ _ _ h => h.elim) (Or.inr ⟨by first | (simp [Region.wanted, yielded]; done) | (simp [Region.wanted, yielded, undef]; done), rfl⟩) hSd ?rr7_31
    simp only [Act.put, actP]
    refine wpHJ_take (v := undef) 32 hFa rfl (by kernel_rfl) (fun _ _ _ h => h.elim) (Or.inr ⟨by first | (simp [Region.wanted, yielded]; done) | (simp [Region.wanted, yielded, undef]; done), rfl⟩) hSd ?rr7_32
    simp only [Act.put, actP]
    refine wpHJ_only 33 (by kernel_rfl) rfl ?_
    intro K hK
    go_simp
    refine hK _ _ (.inr (.inr hSd)) ?_
    clear hK K
    refine wpHJ_done (by kernel_rfl) ?_ _
    simp only [onlyN, Exit.then]
    clear hFa
    go_wp2_with fail
    go_meet
    case rel => exact ⟨by rw [HD.out, HN.out]; first | rfl | (simp [fieldB, HDV.out, HNV.out]; done) | (simp [fieldB, HDV.out, HNV.out, HNE.out]; done) | (simp [fieldB, HDV.out, HNV.out, HDE.out]; done) | (simp [fieldB, HDV.out, HNV.out, named_ne HNV.out]; done) | (simp [fieldB, HDV.out, HNV.out, named_ne HDV.out]; done), HB1D.out, HBD.out⟩
   | false =>
    have HDV := hid hdv; clear hdv
    by_cases hde : d = []
    ·subst hde
     cases fn with
     | true =>
      cases hnv : namedB n with
      | true =>
       have HNV := hid hnv; clear hnv
       have hFa : ∀ f, Fence.wide.fn f := fun _ => trivial
       refine (wpIn_wide (n := 9)).1 ?_
       refine wpIn_onlyN ?_
       refine wpIn_region_HJ (fun W => W.cell? ⟨w.heap.size, 2, none⟩ = some (.string ⟨([] : Bs).toArray⟩) ∧ W.cell? ⟨w.heap.size, 3, none⟩ = some (.string ⟨n.toArray⟩) ∧ W.cell? ⟨w.heap.size + 1, 0, none⟩ = some (.bool false) ∧ W.cell? ⟨w.heap.size + 1, 1, none⟩ = some (.bool true)) 34 (by kernel_rfl) ?_
       simp only [List.size_toArray, List.length_cons, List.length_nil, Nat.reduceAdd]
       refine wpHJ_take (v := ?vr8_0) 0 hFa rfl (by kernel_rfl) (fun _ _ _ h => h.elim) (Or.inl ⟨by rfl, ?yr8_0⟩) hS ?rr8_0
       case yr8_0 => (intro w' hS'; obtain ⟨s0, s1, s2, s3⟩ := hS'; go_simp; try rfl)
       simp only [Act.put, actP]
       refine wpHJ_take (v := ?vr8_1) 1 hFa rfl (by kernel_rfl) (fun _ _ _ h => h.elim) (Or.inl ⟨by rfl, ?yr8_1⟩) hS ?rr8_1
       case yr8_1 => (intro w' hS'; obtain ⟨s0, s1, s2, s3⟩ := hS'; go_simp; try rfl)
       simp only [Act.put, actP]
       refine wpHJ_take (v := ?vr8_2) 2 hFa rfl (by kernel_rfl) (fun _ _ _ h => h.elim) (Or.inl ⟨by rfl, ?yr8_2⟩) hS ?rr8_2
       case yr8_2 => (intro w' hS'; obtain ⟨s0, s1, s2, s3⟩ := hS'; go_simp; try rfl)
       simp only [Act.put, actP]
       refine wpHJ_take (v := ?vr8_3) 3 hFa rfl (by kernel_rfl) (fun _ _ _ h => h.elim) (Or.inl ⟨by rfl, ?yr8_3⟩) hS ?rr8_3
       case yr8_3 => (intro w' hS'; obtain ⟨s0, s1, s2, s3⟩ := hS'; go_simp; try rfl)
       simp only [Act.put, actP]
       refine wpHJ_only 4 (by kernel_rfl) rfl ?_
       intro K hK
       go_simp
       (with_reducible refine (callsIn_wide.2 (HND.out _ (HE.out.step ((HBW.out.drew).mono HE.out.size)).e)).mono ?_)
       rintro e wd ⟨rfl, hbd⟩
       rw [HDV.out]
       have hSd : (fun W => W.cell? ⟨w.heap.size, 2, none⟩ = some (.string ⟨([] : Bs).toArray⟩) ∧ W.cell? ⟨w.heap.size, 3, none⟩ = some (.string ⟨n.toArray⟩) ∧ W.cell? ⟨w.heap.size + 1, 0, none⟩ = some (.bool false) ∧ W.cell? ⟨w.heap.size + 1, 1, none⟩ = some (.bool true)) wd := ⟨(hbd.cell (p := ⟨_, _, none⟩) (cell_size hS.1)).trans hS.1, (hbd.cell (p := ⟨_, _, none⟩) (cell_size hS.2.1)).trans hS.2.1, (hbd.cell (p := ⟨_, _, none⟩) (cell_size hS.2.2.1)).trans hS.2.2.1, (hbd.cell (p := ⟨_, _, none⟩) (cell_size hS.2.2.2)).trans hS.2.2.2⟩
       have HBD := hid (HBW.out.drew.trans (hbd.mono HBW.out.size))
       have HB1D := hid ((show BxL 26 w.heap.size (inL x (.slice pa x.args.length ca)) wc.drew from HB1.out).bel hbd)
       clear hbd hS
       refine hK _ _ (.inr (.inr hSd)) ?_
       clear hK K
       refine wpHJ_take (v := ?vr8_5) 5 hFa rfl (by kernel_rfl) (fun _ _ _ h => h.elim) (Or.inl ⟨by rfl, ?yr8_5⟩) hSd ?rr8_5
       case yr8_5 => (intro w' hS'; obtain ⟨s0, s1, s2, s3⟩ := hS'; go_simp; try rfl)
       simp only [Act.put, actP]
       refine wpHJ_take (v := ?vr8_6) 6 hFa rfl (by kernel_rfl) (fun _ _ _ h => h.elim) (Or.inl ⟨by rfl, ?yr8_6⟩) hSd ?rr8_6
       case yr8_6 => (intro w' hS'; obtain ⟨s0, s1, s2, s3⟩ := hS'; go_simp; try rfl)
       simp only [Act.put, actP]
       refine wpHJ_take (v := ?vr8_7) 7 hFa rfl (by kernel_rfl) (fun _ _ _ h => h.elim) (Or.inl ⟨by first | (simp [Region.wanted, yielded]; done) | (simp [Region.wanted, yielded, undef]; done), ?yr8_7⟩) hSd ?rr8_7
       case yr8_7 => (intro w' hS'; obtain ⟨s0, s1, s2, s3⟩ := hS'; go_simp; try rfl)
       simp only [Act.put, actP]
       refine wpHJ_take (v := ?vr8_8) 8 hFa rfl (by kernel_rfl) (fun _ _ _ h => h.elim) (Or.inl ⟨by first | (simp [Region.wanted, yielded]; done) | (simp [Region.wanted, yielded, undef]; done), ?yr8_8⟩) hSd ?rr8_8
       case yr8_8 => (intro w' hS'; obtain ⟨s0, s1, s2, s3⟩ := hS'; go_simp; try rfl)
       simp only [Act.put, actP]
       refine wpHJ_take (v := ?vr8_9) 9 hFa rfl (by kernel_rfl) (fun _ _ _ h => h.elim) (Or.inl ⟨by first | (simp [Region.wanted, yielded]; done) | (simp [Region.wanted, yielded, undef]; done), ?yr8_9⟩) hSd ?rr8_9
       case yr8_9 => (intro w' hS'; obtain ⟨s0, s1, s2, s3⟩ := hS'; go_simp; try rfl)
       simp only [Act.put, actP]
       refine wpHJ_take (v := ?vr8_10) 10 hFa rfl (by kernel_rfl) (fun _ _ _ h => h.elim) (Or.inl ⟨by first | (simp [Region.wanted, yielded]; done) | (simp [Region.wanted, yielded, undef]; done), ?yr8_10⟩) hSd ?rr8_10
       case yr8_10 => (intro w' hS'; obtain ⟨s0, s1, s2, s3⟩ := hS'; go_simp; try rfl)
       simp only [Act.put, actP]
       refine wpHJ_take (v := ?vr8_11) 11 hFa rfl (by kernel_rfl) (fun _ _ _ h => h.elim) (Or.inl ⟨by first | (simp [Region.wanted, yielded]; done) | (simp [Region.wanted, yielded, undef]; done), ?yr8_11⟩) hSd ?rr8_11
       case yr8_11 => (intro w' hS'; obtain ⟨s0, s1, s2, s3⟩ := hS'; go_simp; try rfl)
       simp only [Act.put, actP]
       refine wpHJ_take (v := ?vr8_12) 12 hFa rfl (by kernel_rfl) (fun _ _ _ h => h.elim) (Or.inl ⟨by first | (simp [Region.wanted, yielded]; done) | (simp [Region.wanted, yielded, undef]; done), ?yr8_12⟩) hSd ?rr8_12
       case yr8_12 => (intro w' hS'; obtain ⟨s0, s1, s2, s3⟩ := hS'; go_simp; try rfl)
       simp only [Act.put, actP]
       refine wpHJ_take (v := ?vr8_13) 13 hFa rfl (by kernel_rfl) (fun _ _ _ h => h.elim) (Or.inl ⟨by first | (simp [Region.wanted, yielded]; done) | (simp [Region.wanted, yielded, undef]; done), ?yr8_13⟩) hSd ?rr8_13
       case yr8_13 => (intro w' hS'; obtain ⟨s0, s1, s2, s3⟩ := hS'; go_simp; try rfl)
       simp only [Act.put, actP]
       refine wpHJ_take (v := ?vr8_14) 14 hFa rfl (by kernel_rfl) (fun _ _ _ h => h.elim) (Or.inl ⟨by first | (simp [Region.wanted, yielded]; done) | (simp [Region.wanted, yielded, undef]; done), ?yr8_14⟩) hSd ?rr8_14
       case yr8_14 => (intro w' hS'; obtain ⟨s0, s1, s2, s3⟩ := hS'; go_simp; try rfl)
       simp only [Act.put, actP]
       refine wpHJ_take (v := ?vr8_15) 15 hFa rfl (by kernel_rfl) (fun _ _ _ h => h.elim) (Or.inl ⟨by rfl, ?yr8_15⟩) hSd ?rr8_15
       case yr8_15 => (intro w' hS'; obtain ⟨s0, s1, s2, s3⟩ := hS'; go_simp; try rfl)
       simp only [Act.put, actP]
       refine wpHJ_take (v := ?vr8_16) 16 hFa rfl (by kernel_rfl) (fun _ _ _ h => h.elim) (Or.inl ⟨by rfl, ?yr8_16⟩) hSd ?rr8_16
       case yr8_16 => (intro w' hS'; obtain ⟨s0, s1, s2, s3⟩ := hS'; go_simp; try rfl)
       simp only [Act.put, actP]
       refine wpHJ_take (v := ?vr8_17) 17 hFa rfl (by kernel_rfl) (fun _ _ _ h => h.elim) (Or.inl ⟨by first | (simp [Region.wanted, yielded]; done) | (simp [Region.wanted, yielded, undef]; done), ?yr8_17⟩) hSd ?rr8_17
       case yr8_17 => (intro w' hS'; obtain ⟨s0, s1, s2, s3⟩ := hS'; go_simp; try rfl)
       simp only [Act.put, actP]
       refine wpHJ_take (v := ?vr8_18) 18 hFa rfl (by kernel_rfl) (fun _ _ _ h => h.elim) (Or.inl ⟨by first | (simp [Region.wanted, yielded]; done) | (simp [Region.wanted, yielded, undef]; done), ?yr8_18⟩) hSd ?rr8_18
       case yr8_18 => (intro w' hS'; obtain ⟨s0, s1, s2, s3⟩ := hS'; go_simp; try rfl)
       simp only [Act.put, actP]
       refine wpHJ_take (v := ?vr8_19) 19 hFa rfl (by kernel_rfl) (fun _ _ _ h => h.elim) (Or.inl ⟨by first | (simp [Region.wanted, yielded]; done) | (simp [Region.wanted, yielded, undef]; done), ?yr8_19⟩) hSd ?rr8_19
       case yr8_19 => (intro w' hS'; obtain ⟨s0, s1, s2, s3⟩ := hS'; go_simp; try rfl)
       simp only [Act.put, actP]
       refine wpHJ_take (v := ?vr8_20) 20 hFa rfl (by kernel_rfl) (fun _ _ _ h => h.elim) (Or.inl ⟨by first | (simp [Region.wanted, yielded]; done) | (simp [Region.wanted, yielded, undef]; done), ?yr8_20⟩) hSd ?rr8_20
       case yr8_20 => (intro w' hS'; obtain ⟨s0, s1, s2, s3⟩ := hS'; go_simp; try rfl)
       simp only [Act.put, actP]
       refine wpHJ_only 21 (by kernel_rfl) rfl ?_
       intro K hK
       rw [if_pos (by first | (simp [Region.wanted, yielded]; done) | (simp [Region.wanted, yielded, undef]; done))]
       go_simp
       (with_reducible refine (callsIn_wide.2 (HNN.out _ (HE.out.step (HBD.out.mono HE.out.size)).e)).mono ?_)
       rintro e wn ⟨rfl, hbn⟩
       rw [HNV.out]
       have hSn : (fun W => W.cell? ⟨w.heap.size, 2, none⟩ = some (.string ⟨([] : Bs).toArray⟩) ∧ W.cell? ⟨w.heap.size, 3, none⟩ = some (.string ⟨n.toArray⟩) ∧ W.cell? ⟨w.heap.size + 1, 0, none⟩ = some (.bool false) ∧ W.cell? ⟨w.heap.size + 1, 1, none⟩ = some (.bool true)) wn := ⟨(hbn.cell (p := ⟨_, _, none⟩) (cell_size hSd.1)).trans hSd.1, (hbn.cell (p := ⟨_, _, none⟩) (cell_size hSd.2.1)).trans hSd.2.1, (hbn.cell (p := ⟨_, _, none⟩) (cell_size hSd.2.2.1)).trans hSd.2.2.1, (hbn.cell (p := ⟨_, _, none⟩) (cell_size hSd.2.2.2)).trans hSd.2.2.2⟩
       have HBN := hid (HBD.out.trans (hbn.mono HBD.out.size))
       have HB1N := hid (HB1D.out.bel hbn)
       clear hbn hSd
       refine hK _ _ (.inr (.inr hSn)) ?_
       clear hK K
       refine wpHJ_take (v := ?vr8_22) 22 hFa rfl (by kernel_rfl) (fun _ _ _ h => h.elim) (Or.inl ⟨by first | (simp [Region.wanted, yielded]; done) | (simp [Region.wanted, yielded, undef]; done), ?yr8_22⟩) hSn ?rr8_22
       case yr8_22 => (intro w' hS'; obtain ⟨s0, s1, s2, s3⟩ := hS'; go_simp; try rfl)
       simp only [Act.put, actP]
       refine wpHJ_take (v := ?vr8_23) 23 hFa rfl (by kernel_rfl) (fun _ _ _ h => h.elim) (Or.inl ⟨by rfl, ?yr8_23⟩) hSn ?rr8_23
       case yr8_23 => (intro w' hS'; obtain ⟨s0, s1, s2, s3⟩ := hS'; go_simp; try rfl)
       simp only [Act.put, actP]
       refine wpHJ_take (v := ?vr8_24) 24 hFa rfl (by kernel_rfl) (fun _ _ _ h => h.elim) (Or.inl ⟨by rfl, ?yr8_24⟩) hSn ?rr8_24
       case yr8_24 => (intro w' hS'; obtain ⟨s0, s1, s2, s3⟩ := hS'; go_simp; try rfl)
       simp only [Act.put, actP]
       refine wpHJ_take (v := ?vr8_25) 25 hFa rfl (by kernel_rfl) (fun _ _ _ h => h.elim) (Or.inl ⟨by first | (simp [Region.wanted, yielded]; done) | (simp [Region.wanted, yielded, undef]; done), ?yr8_25⟩) hSn ?rr8_25
       case yr8_25 => (intro w' hS'; obtain ⟨s0, s1, s2, s3⟩ := hS'; go_simp; try rfl)
       simp only [Act.put, actP]
       refine wpHJ_take (v := ?vr8_26) 26 hFa rfl (by kernel_rfl) (fun _ _ _ h => h.elim) (Or.inl ⟨by first | (simp [Region.wanted, yielded]; done) | (simp [Region.wanted, yielded, undef]; done), ?yr8_26⟩) hSn ?rr8_26
       case yr8_26 => (intro w' hS'; obtain ⟨s0, s1, s2, s3⟩ := hS'; go_simp; try rfl)
       simp only [Act.put, actP]
       refine wpHJ_take (v := ?vr8_27) 27 hFa rfl (by kernel_rfl) (fun _ _ _ h => h.elim) (Or.inl ⟨by first | (simp [Region.wanted, yielded]; done) | (simp [Region.wanted, yielded, undef]; done), ?yr8_27⟩) hSn ?rr8_27
       case yr8_27 => (intro w' hS'; obtain ⟨s0, s1, s2, s3⟩ := hS'; go_simp; try rfl)
       simp only [Act.put, actP]
       refine wpHJ_take (v := ?vr8_28) 28 hFa rfl (by kernel_rfl) (fun _ _ _ h => h.elim) (Or.inl ⟨by first | (simp [Region.wanted, yielded]; done) | (simp [Region.wanted, yielded, undef]; done), ?yr8_28⟩) hSn ?rr8_28
       case yr8_28 => (intro w' hS'; obtain ⟨s0, s1, s2, s3⟩ := hS'; go_simp; try rfl)
       simp only [Act.put, actP]
       refine wpHJ_take (v := undef) 29 hFa rfl (by kernel_rfl) (fun _ _ _ h => h.elim) (Or.inr ⟨by first | (simp [Region.wanted, yielded]; done) | (simp [Region.wanted, yielded, undef]; done), rfl⟩) hSn ?rr8_29
       simp only [Act.put, actP]
       refine wpHJ_take (v := undef) 30 hFa rfl (by kernel_rfl) (fun _ _ _ h => h.elim) (Or.inr ⟨by first | (simp [Region.wanted, yielded]; done) | (simp [Region.wanted, yielded, undef]; done), rfl⟩) hSn ?rr8_30
       simp only [Act.put, actP]
       refine wpHJ_take (v := undef) 31 hFa rfl (by kernel_rfl) (fun _ _ _ h => h.elim) (Or.inr ⟨by first | (simp [Region.wanted, yielded]; done) | (simp [Region.wanted, yielded, undef]; done), rfl⟩) hSn ?rr8_31
       simp only [Act.put, actP]
       refine wpHJ_take (v := ?vr8_32) 32 hFa rfl (by kernel_rfl) (fun _ _ _ h => h.elim) (Or.inl ⟨by first | (simp [Region.wanted, yielded]; done) | (simp [Region.wanted, yielded, undef]; done), ?yr8_32⟩) hSn ?rr8_32
       case yr8_32 => (intro w' hS'; obtain ⟨s0, s1, s2, s3⟩ := hS'; go_simp; try rfl)
       simp only [Act.put, actP]
       refine wpHJ_only 33 (by kernel_rfl) rfl ?_
       intro K hK
       go_simp
       refine hK _ _ (.inr (.inr hSn)) ?_
       clear hK K
       refine wpHJ_done (by kernel_rfl) ?_ _
       simp only [onlyN, Exit.then]
       clear hFa
       go_wp2_with fail
       go_meet
       case rel => exact ⟨by rw [HD.out, HN.out]; first | rfl | (simp [fieldB, HDV.out, HNV.out]; done) | (simp [fieldB, HDV.out, HNV.out, HNE.out]; done) | (simp [fieldB, HDV.out, HNV.out, HDE.out]; done) | (simp [fieldB, HDV.out, HNV.out, named_ne HNV.out]; done) | (simp [fieldB, HDV.out, HNV.out, named_ne HDV.out]; done), HB1N.out, HBN.out⟩
      | false =>
       have HNV := hid hnv; clear hnv
       have hFa : ∀ f, Fence.wide.fn f := fun _ => trivial
       refine (wpIn_wide (n := 9)).1 ?_
       refine wpIn_onlyN ?_
       refine wpIn_region_HJ (fun W => W.cell? ⟨w.heap.size, 2, none⟩ = some (.string ⟨([] : Bs).toArray⟩) ∧ W.cell? ⟨w.heap.size, 3, none⟩ = some (.string ⟨n.toArray⟩) ∧ W.cell? ⟨w.heap.size + 1, 0, none⟩ = some (.bool false) ∧ W.cell? ⟨w.heap.size + 1, 1, none⟩ = some (.bool true)) 34 (by kernel_rfl) ?_
       simp only [List.size_toArray, List.length_cons, List.length_nil, Nat.reduceAdd]
       refine wpHJ_take (v := ?vr9_0) 0 hFa rfl (by kernel_rfl) (fun _ _ _ h => h.elim) (Or.inl ⟨by rfl, ?yr9_0⟩) hS ?rr9_0
       case yr9_0 => (intro w' hS'; obtain ⟨s0, s1, s2, s3⟩ := hS'; go_simp; try rfl)
       simp only [Act.put, actP]
       refine wpHJ_take (v := ?vr9_1) 1 hFa rfl (by kernel_rfl) (fun _ _ _ h => h.elim) (Or.inl ⟨by rfl, ?yr9_1⟩) hS ?rr9_1
       case yr9_1 => (intro w' hS'; obtain ⟨s0, s1, s2, s3⟩ := hS'; go_simp; try rfl)
       simp only [Act.put, actP]
       refine wpHJ_take (v := ?vr9_2) 2 hFa rfl (by kernel_rfl) (fun _ _ _ h => h.elim) (Or.inl ⟨by rfl, ?yr9_2⟩) hS ?rr9_2
       case yr9_2 => (intro w' hS'; obtain ⟨s0, s1, s2, s3⟩ := hS'; go_simp; try rfl)
       simp only [Act.put, actP]
       refine wpHJ_take (v := ?vr9_3) 3 hFa rfl (by kernel_rfl) (fun _ _ _ h => h.elim) (Or.inl ⟨by rfl, ?yr9_3⟩) hS ?rr9_3
       case yr9_3 => (intro w' hS'; obtain ⟨s0, s1, s2, s3⟩ := hS'; go_simp; try rfl)
       simp only [Act.put, actP]
       refine wpHJ_only 4 (by kernel_rfl) rfl ?_
       intro K hK
       go_simp
       (with_reducible refine (callsIn_wide.2 (HND.out _ (HE.out.step ((HBW.out.drew).mono HE.out.size)).e)).mono ?_)
       rintro e wd ⟨rfl, hbd⟩
       rw [HDV.out]
       have hSd : (fun W => W.cell? ⟨w.heap.size, 2, none⟩ = some (.string ⟨([] : Bs).toArray⟩) ∧ W.cell? ⟨w.heap.size, 3, none⟩ = some (.string ⟨n.toArray⟩) ∧ W.cell? ⟨w.heap.size + 1, 0, none⟩ = some (.bool false) ∧ W.cell? ⟨w.heap.size + 1, 1, none⟩ = some (.bool true)) wd := ⟨(hbd.cell (p := ⟨_, _, none⟩) (cell_size hS.1)).trans hS.1, (hbd.cell (p := ⟨_, _, none⟩) (cell_size hS.2.1)).trans hS.2.1, (hbd.cell (p := ⟨_, _, none⟩) (cell_size hS.2.2.1)).trans hS.2.2.1, (hbd.cell (p := ⟨_, _, none⟩) (cell_size hS.2.2.2)).trans hS.2.2.2⟩
       have HBD := hid (HBW.out.drew.trans (hbd.mono HBW.out.size))
       have HB1D := hid ((show BxL 26 w.heap.size (inL x (.slice pa x.args.length ca)) wc.drew from HB1.out).bel hbd)
       clear hbd hS
       refine hK _ _ (.inr (.inr hSd)) ?_
       clear hK K
       refine wpHJ_take (v := ?vr9_5) 5 hFa rfl (by kernel_rfl) (fun _ _ _ h => h.elim) (Or.inl ⟨by rfl, ?yr9_5⟩) hSd ?rr9_5
       case yr9_5 => (intro w' hS'; obtain ⟨s0, s1, s2, s3⟩ := hS'; go_simp; try rfl)
       simp only [Act.put, actP]
       refine wpHJ_take (v := ?vr9_6) 6 hFa rfl (by kernel_rfl) (fun _ _ _ h => h.elim) (Or.inl ⟨by rfl, ?yr9_6⟩) hSd ?rr9_6
       case yr9_6 => (intro w' hS'; obtain ⟨s0, s1, s2, s3⟩ := hS'; go_simp; try rfl)
       simp only [Act.put, actP]
       refine wpHJ_take (v := ?vr9_7) 7 hFa rfl (by kernel_rfl) (fun _ _ _ h => h.elim) (Or.inl ⟨by first | (simp [Region.wanted, yielded]; done) | (simp [Region.wanted, yielded, undef]; done), ?yr9_7⟩) hSd ?rr9_7
       case yr9_7 => (intro w' hS'; obtain ⟨s0, s1, s2, s3⟩ := hS'; go_simp; try rfl)
       simp only [Act.put, actP]
       refine wpHJ_take (v := ?vr9_8) 8 hFa rfl (by kernel_rfl) (fun _ _ _ h => h.elim) (Or.inl ⟨by first | (simp [Region.wanted, yielded]; done) | (simp [Region.wanted, yielded, undef]; done), ?yr9_8⟩) hSd ?rr9_8
       case yr9_8 => (intro w' hS'; obtain ⟨s0, s1, s2, s3⟩ := hS'; go_simp; try rfl)
       simp only [Act.put, actP]
       refine wpHJ_take (v := ?vr9_9) 9 hFa rfl (by kernel_rfl) (fun _ _ _ h => h.elim) (Or.inl ⟨by first | (simp [Region.wanted, yielded]; done) | (simp [Region.wanted, yielded, undef]; done), ?yr9_9⟩) hSd ?rr9_9
       case yr9_9 => (intro w' hS'; obtain ⟨s0, s1, s2, s3⟩ := hS'; go_simp; try rfl)
       simp only [Act.put, actP]
       refine wpHJ_take (v := ?vr9_10) 10 hFa rfl (by kernel_rfl) (fun _ _ _ h => h.elim) (Or.inl ⟨by first | (simp [Region.wanted, yielded]; done) | (simp [Region.wanted, yielded, undef]; done), ?yr9_10⟩) hSd ?rr9_10
       case yr9_10 => (intro w' hS'; obtain ⟨s0, s1, s2, s3⟩ := hS'; go_simp; try rfl)
       simp only [Act.put, actP]
       refine wpHJ_take (v := ?vr9_11) 11 hFa rfl (by kernel_rfl) (fun _ _ _ h => h.elim) (Or.inl ⟨by first | (simp [Region.wanted, yielded]; done) | (simp [Region.wanted, yielded, undef]; done), ?yr9_11⟩) hSd ?rr9_11
       case yr9_11 => (intro w' hS'; obtain ⟨s0, s1, s2, s3⟩ := hS'; go_simp; try rfl)
       simp only [Act.put, actP]
       refine wpHJ_take (v := ?vr9_12) 12 hFa rfl (by kernel_rfl) (fun _ _ _ h => h.elim) (Or.inl ⟨by first | (simp [Region.wanted, yielded]; done) | (simp [Region.wanted, yielded, undef]; done), ?yr9_12⟩) hSd ?rr9_12
       case yr9_12 => (intro w' hS'; obtain ⟨s0, s1, s2, s3⟩ := hS'; go_simp; try rfl)
       simp only [Act.put, actP]
       refine wpHJ_take (v := ?vr9_13) 13 hFa rfl (by kernel_rfl) (fun _ _ _ h => h.elim) (Or.inl ⟨by first | (simp [Region.wanted, yielded]; done) | (simp [Region.wanted, yielded, undef]; done), ?yr9_13⟩) hSd ?rr9_13
       case yr9_13 => (intro w' hS'; obtain ⟨s0, s1, s2, s3⟩ := hS'; go_simp; try rfl)
       simp only [Act.put, actP]
       refine wpHJ_take (v := ?vr9_14) 14 hFa rfl (by kernel_rfl) (fun _ _ _ h => h.elim) (Or.inl ⟨by first | (simp [Region.wanted, yielded]; done) | (simp [Region.wanted, yielded, undef]; done), ?yr9_14⟩) hSd ?rr9_14
       case yr9_14 => (intro w' hS'; obtain ⟨s0, s1, s2, s3⟩ := hS'; go_simp; try rfl)
       simp only [Act.put, actP]
       refine wpHJ_take (v := ?vr9_15) 15 hFa rfl (by kernel_rfl) (fun _ _ _ h => h.elim) (Or.inl ⟨by rfl, ?yr9_15⟩) hSd ?rr9_15
       case yr9_15 => (intro w' hS'; obtain ⟨s0, s1, s2, s3⟩ := hS'; go_simp; try rfl)
       simp only [Act.put, actP]
       refine wpHJ_take (v := ?vr9_16) 16 hFa rfl (by kernel_rfl) (fun _ _ _ h => h.elim) (Or.inl ⟨by rfl, ?yr9_16⟩) hSd ?rr9_16
       case yr9_16 => (intro w' hS'; obtain ⟨s0, s1, s2, s3⟩ := hS'; go_simp; try rfl)
       simp only [Act.put, actP]
       refine wpHJ_take (v := ?vr9_17) 17 hFa rfl (by kernel_rfl) (fun _ _ _ h => h.elim) (Or.inl ⟨by first | (simp [Region.wanted, yielded]; done) | (simp [Region.wanted, yielded, undef]; done), ?yr9_17⟩) hSd ?rr9_17
       case yr9_17 => (intro w' hS'; obtain ⟨s0, s1, s2, s3⟩ := hS'; go_simp; try rfl)
       simp only [Act.put, actP]
       refine wpHJ_take (v := ?vr9_18) 18 hFa rfl (by kernel_rfl) (fun _ _ _ h => h.elim) (Or.inl ⟨by first | (simp [Region.wanted, yielded]; done) | (simp [Region.wanted, yielded, undef]; done), ?yr9_18⟩) hSd ?rr9_18
       case yr9_18 => (intro w' hS'; obtain ⟨s0, s1, s2, s3⟩ := hS'; go_simp; try rfl)
       simp only [Act.put, actP]
       refine wpHJ_take (v := ?vr9_19) 19 hFa rfl (by kernel_rfl) (fun _ _ _ h => h.elim) (Or.inl ⟨by first | (simp [Region.wanted, yielded]; done) | (simp [Region.wanted, yielded, undef]; done), ?yr9_19⟩) hSd ?rr9_19
       case yr9_19 => (intro w' hS'; obtain ⟨s0, s1, s2, s3⟩ := hS'; go_simp; try rfl)
       simp only [Act.put, actP]
       refine wpHJ_take (v := ?vr9_20) 20 hFa rfl (by kernel_rfl) (fun _ _ _ h => h.elim) (Or.inl ⟨by first | (simp [Region.wanted, yielded]; done) | (simp [Region.wanted, yielded, undef]; done), ?yr9_20⟩) hSd ?rr9_20
       case yr9_20 => (intro w' hS'; obtain ⟨s0, s1, s2, s3⟩ := hS'; go_simp; try rfl)
       simp only [Act.put, actP]
       refine wpHJ_only 21 (by kernel_rfl) rfl ?_
       intro K hK
       rw [if_pos (by first | (simp [Region.wanted, yielded]; done) | (simp [Region.wanted, yielded, undef]; done))]
       go_simp
       (with_reducible refine (callsIn_wide.2 (HNN.out _ (HE.out.step (HBD.out.mono HE.out.size)).e)).mono ?_)
       rintro e wn ⟨rfl, hbn⟩
       rw [HNV.out]
       have hSn : (fun W => W.cell? ⟨w.heap.size, 2, none⟩ = some (.string ⟨([] : Bs).toArray⟩) ∧ W.cell? ⟨w.heap.size, 3, none⟩ = some (.string ⟨n.toArray⟩) ∧ W.cell? ⟨w.heap.size + 1, 0, none⟩ = some (.bool false) ∧ W.cell? ⟨w.heap.size + 1, 1, none⟩ = some (.bool true)) wn := ⟨(hbn.cell (p := ⟨_, _, none⟩) (cell_size hSd.1)).trans hSd.1, (hbn.cell (p := ⟨_, _, none⟩) (cell_size hSd.2.1)).trans hSd.2.1, (hbn.cell (p := ⟨_, _, none⟩) (cell_size hSd.2.2.1)).trans hSd.2.2.1, (hbn.cell (p := ⟨_, _, none⟩) (cell_size hSd.2.2.2)).trans hSd.2.2.2⟩
       have HBN := hid (HBD.out.trans (hbn.mono HBD.out.size))
       have HB1N := hid (HB1D.out.bel hbn)
       clear hbn hSd
       refine hK _ _ (.inr (.inr hSn)) ?_
       clear hK K
       refine wpHJ_take (v := ?vr9_22) 22 hFa rfl (by kernel_rfl) (fun _ _ _ h => h.elim) (Or.inl ⟨by first | (simp [Region.wanted, yielded]; done) | (simp [Region.wanted, yielded, undef]; done), ?yr9_22⟩) hSn ?rr9_22
       case yr9_22 => (intro w' hS'; obtain ⟨s0, s1, s2, s3⟩ := hS'; go_simp; try rfl)
       simp only [Act.put, actP]
       refine wpHJ_take (v := ?vr9_23) 23 hFa rfl (by kernel_rfl) (fun _ _ _ h => h.elim) (Or.inl ⟨by rfl, ?yr9_23⟩) hSn ?rr9_23
       case yr9_23 => (intro w' hS'; obtain ⟨s0, s1, s2, s3⟩ := hS'; go_simp; try rfl)
       simp only [Act.put, actP]
       refine wpHJ_take (v := ?vr9_24) 24 hFa rfl (by kernel_rfl) (fun _ _ _ h => h.elim) (Or.inl ⟨by rfl, ?yr9_24⟩) hSn ?rr9_24
       case yr9_24 => (intro w' hS'; obtain ⟨s0, s1, s2, s3⟩ := hS'; go_simp; try rfl)
       simp only [Act.put, actP]
       refine wpHJ_take (v := undef) 25 hFa rfl (by kernel_rfl) (fun _ _ _ h => h.elim) (Or.inr ⟨by first | (simp [Region.wanted, yielded]; done) | (simp [Region.wanted, yielded, undef]; done), rfl⟩) hSn ?rr9_25
       simp only [Act.put, actP]
       refine wpHJ_take (v := undef) 26 hFa rfl (by kernel_rfl) (fun _ _ _ h => h.elim) (Or.inr ⟨by first | (simp [Region.wanted, yielded]; done) | (simp [Region.wanted, yielded, undef]; done), rfl⟩) hSn ?rr9_26
       simp only [Act.put, actP]
       refine wpHJ_take (v := undef) 27 hFa rfl (by kernel_rfl) (fun _ _ _ h => h.elim) (Or.inr ⟨by first | (simp [Region.wanted, yielded]; done) | (simp [Region.wanted, yielded, undef]; done), rfl⟩) hSn ?rr9_27
       simp only [Act.put, actP]
       refine wpHJ_take (v := undef) 28 hFa rfl (by kernel_rfl) (fun _ _ _ h => h.elim) (Or.inr ⟨by first | (simp [Region.wanted, yielded]; done) | (simp [Region.wanted, yielded, undef]; done), rfl⟩) hSn ?rr9_28
       simp only [Act.put, actP]
       refine wpHJ_take (v := undef) 29 hFa rfl (by kernel_rfl) (fun _ _ _ h => h.elim) (Or.inr ⟨by first | (simp [Region.wanted, yielded]; done) | (simp [Region.wanted, yielded, undef]; done), rfl⟩) hSn ?rr9_29
       simp only [Act.put, actP]
       refine wpHJ_take (v := undef) 30 hFa rfl (by kernel_rfl) (fun _ _ _ h => h.elim) (Or.inr ⟨by first | (simp [Region.wanted, yielded]; done) | (simp [Region.wanted, yielded, undef]; done), rfl⟩) hSn ?rr9_30
       simp only [Act.put, actP]
       refine wpHJ_take (v := undef) 31 hFa rfl (by kernel_rfl) (fun _ _ _ h => h.elim) (Or.inr ⟨by first | (simp [Region.wanted, yielded]; done) | (simp [Region.wanted, yielded, undef]; done), rfl⟩) hSn ?rr9_31
       simp only [Act.put, actP]
       refine wpHJ_take (v := undef) 32 hFa rfl (by kernel_rfl) (fun _ _ _ h => h.elim) (Or.inr ⟨by first | (simp [Region.wanted, yielded]; done) | (simp [Region.wanted, yielded, undef]; done), rfl⟩) hSn ?rr9_32
       simp only [Act.put, actP]
       refine wpHJ_only 33 (by kernel_rfl) rfl ?_
       intro K hK
       go_simp
       refine hK _ _ (.inr (.inr hSn)) ?_
       clear hK K
       refine wpHJ_done (by kernel_rfl) ?_ _
       simp only [onlyN, Exit.then]
       clear hFa
       go_wp2_with fail
       go_meet
       case rel => exact ⟨by rw [HD.out, HN.out]; first | rfl | (simp [fieldB, HDV.out, HNV.out]; done) | (simp [fieldB, HDV.out, HNV.out, HNE.out]; done) | (simp [fieldB, HDV.out, HNV.out, HDE.out]; done) | (simp [fieldB, HDV.out, HNV.out, named_ne HNV.out]; done) | (simp [fieldB, HDV.out, HNV.out, named_ne HDV.out]; done), HB1N.out, HBN.out⟩
     | false =>
      cases hnv : namedB n with
      | true =>
       have HNV := hid hnv; clear hnv
       have hFa : ∀ f, Fence.wide.fn f := fun _ => trivial
       refine (wpIn_wide (n := 9)).1 ?_
       refine wpIn_onlyN ?_
       refine wpIn_region_HJ (fun W => W.cell? ⟨w.heap.size, 2, none⟩ = some (.string ⟨([] : Bs).toArray⟩) ∧ W.cell? ⟨w.heap.size, 3, none⟩ = some (.string ⟨n.toArray⟩) ∧ W.cell? ⟨w.heap.size + 1, 0, none⟩ = some (.bool false) ∧ W.cell? ⟨w.heap.size + 1, 1, none⟩ = some (.bool false)) 34 (by kernel_rfl) ?_
       simp only [List.size_toArray, List.length_cons, List.length_nil, Nat.reduceAdd]
       refine wpHJ_take (v := ?vr10_0) 0 hFa rfl (by kernel_rfl) (fun _ _ _ h => h.elim) (Or.inl ⟨by rfl, ?yr10_0⟩) hS ?rr10_0
       case yr10_0 => (intro w' hS'; obtain ⟨s0, s1, s2, s3⟩ := hS'; go_simp; try rfl)
       simp only [Act.put, actP]
       refine wpHJ_take (v := ?vr10_1) 1 hFa rfl (by kernel_rfl) (fun _ _ _ h => h.elim) (Or.inl ⟨by rfl, ?yr10_1⟩) hS ?rr10_1
       case yr10_1 => (intro w' hS'; obtain ⟨s0, s1, s2, s3⟩ := hS'; go_simp; try rfl)
       simp only [Act.put, actP]
       refine wpHJ_take (v := ?vr10_2) 2 hFa rfl (by kernel_rfl) (fun _ _ _ h => h.elim) (Or.inl ⟨by rfl, ?yr10_2⟩) hS ?rr10_2
       case yr10_2 => (intro w' hS'; obtain ⟨s0, s1, s2, s3⟩ := hS'; go_simp; try rfl)
       simp only [Act.put, actP]
       refine wpHJ_take (v := ?vr10_3) 3 hFa rfl (by kernel_rfl) (fun _ _ _ h => h.elim) (Or.inl ⟨by rfl, ?yr10_3⟩) hS ?rr10_3
       case yr10_3 => (intro w' hS'; obtain ⟨s0, s1, s2, s3⟩ := hS'; go_simp; try rfl)
       simp only [Act.put, actP]
       refine wpHJ_only 4 (by kernel_rfl) rfl ?_
       intro K hK
       go_simp
       (with_reducible refine (callsIn_wide.2 (HND.out _ (HE.out.step ((HBW.out.drew).mono HE.out.size)).e)).mono ?_)
       rintro e wd ⟨rfl, hbd⟩
       rw [HDV.out]
       have hSd : (fun W => W.cell? ⟨w.heap.size, 2, none⟩ = some (.string ⟨([] : Bs).toArray⟩) ∧ W.cell? ⟨w.heap.size, 3, none⟩ = some (.string ⟨n.toArray⟩) ∧ W.cell? ⟨w.heap.size + 1, 0, none⟩ = some (.bool false) ∧ W.cell? ⟨w.heap.size + 1, 1, none⟩ = some (.bool false)) wd := ⟨(hbd.cell (p := ⟨_, _, none⟩) (cell_size hS.1)).trans hS.1, (hbd.cell (p := ⟨_, _, none⟩) (cell_size hS.2.1)).trans hS.2.1, (hbd.cell (p := ⟨_, _, none⟩) (cell_size hS.2.2.1)).trans hS.2.2.1, (hbd.cell (p := ⟨_, _, none⟩) (cell_size hS.2.2.2)).trans hS.2.2.2⟩
       have HBD := hid (HBW.out.drew.trans (hbd.mono HBW.out.size))
       have HB1D := hid ((show BxL 26 w.heap.size (inL x (.slice pa x.args.length ca)) wc.drew from HB1.out).bel hbd)
       clear hbd hS
       refine hK _ _ (.inr (.inr hSd)) ?_
       clear hK K
       refine wpHJ_take (v := ?vr10_5) 5 hFa rfl (by kernel_rfl) (fun _ _ _ h => h.elim) (Or.inl ⟨by rfl, ?yr10_5⟩) hSd ?rr10_5
       case yr10_5 => (intro w' hS'; obtain ⟨s0, s1, s2, s3⟩ := hS'; go_simp; try rfl)
       simp only [Act.put, actP]
       refine wpHJ_take (v := ?vr10_6) 6 hFa rfl (by kernel_rfl) (fun _ _ _ h => h.elim) (Or.inl ⟨by rfl, ?yr10_6⟩) hSd ?rr10_6
       case yr10_6 => (intro w' hS'; obtain ⟨s0, s1, s2, s3⟩ := hS'; go_simp; try rfl)
       simp only [Act.put, actP]
       refine wpHJ_take (v := ?vr10_7) 7 hFa rfl (by kernel_rfl) (fun _ _ _ h => h.elim) (Or.inl ⟨by first | (simp [Region.wanted, yielded]; done) | (simp [Region.wanted, yielded, undef]; done), ?yr10_7⟩) hSd ?rr10_7
       case yr10_7 => (intro w' hS'; obtain ⟨s0, s1, s2, s3⟩ := hS'; go_simp; try rfl)
       simp only [Act.put, actP]
       refine wpHJ_take (v := ?vr10_8) 8 hFa rfl (by kernel_rfl) (fun _ _ _ h => h.elim) (Or.inl ⟨by first | (simp [Region.wanted, yielded]; done) | (simp [Region.wanted, yielded, undef]; done), ?yr10_8⟩) hSd ?rr10_8
       case yr10_8 => (intro w' hS'; obtain ⟨s0, s1, s2, s3⟩ := hS'; go_simp; try rfl)
       simp only [Act.put, actP]
       refine wpHJ_take (v := ?vr10_9) 9 hFa rfl (by kernel_rfl) (fun _ _ _ h => h.elim) (Or.inl ⟨by first | (simp [Region.wanted, yielded]; done) | (simp [Region.wanted, yielded, undef]; done), ?yr10_9⟩) hSd ?rr10_9
       case yr10_9 => (intro w' hS'; obtain ⟨s0, s1, s2, s3⟩ := hS'; go_simp; try rfl)
       simp only [Act.put, actP]
       refine wpHJ_take (v := ?vr10_10) 10 hFa rfl (by kernel_rfl) (fun _ _ _ h => h.elim) (Or.inl ⟨by first | (simp [Region.wanted, yielded]; done) | (simp [Region.wanted, yielded, undef]; done), ?yr10_10⟩) hSd ?rr10_10
       case yr10_10 => (intro w' hS'; obtain ⟨s0, s1, s2, s3⟩ := hS'; go_simp; try rfl)
       simp only [Act.put, actP]
       refine wpHJ_take (v := ?vr10_11) 11 hFa rfl (by kernel_rfl) (fun _ _ _ h => h.elim) (Or.inl ⟨by first | (simp [Region.wanted, yielded]; done) | (simp [Region.wanted, yielded, undef]; done), ?yr10_11⟩) hSd ?rr10_11
       case yr10_11 => (intro w' hS'; obtain ⟨s0, s1, s2, s3⟩ := hS'; go_simp; try rfl)
       simp only [Act.put, actP]
       refine wpHJ_take (v := ?vr10_12) 12 hFa rfl (by kernel_rfl) (fun _ _ _ h => h.elim) (Or.inl ⟨by first | (simp [Region.wanted, yielded]; done) | (simp [Region.wanted, yielded, undef]; done), ?yr10_12⟩) hSd ?rr10_12
       case yr10_12 => (intro w' hS'; obtain ⟨s0, s1, s2, s3⟩ := hS'; go_simp; try rfl)
       simp only [Act.put, actP]
       refine wpHJ_take (v := ?vr10_13) 13 hFa rfl (by kernel_rfl) (fun _ _ _ h => h.elim) (Or.inl ⟨by first | (simp [Region.wanted, yielded]; done) | (simp [Region.wanted, yielded, undef]; done), ?yr10_13⟩) hSd ?rr10_13
       case yr10_13 => (intro w' hS'; obtain ⟨s0, s1, s2, s3⟩ := hS'; go_simp; try rfl)
       simp only [Act.put, actP]
       refine wpHJ_take (v := ?vr10_14) 14 hFa rfl (by kernel_rfl) (fun _ _ _ h => h.elim) (Or.inl ⟨by first | (simp [Region.wanted, yielded]; done) | (simp [Region.wanted, yielded, undef]; done), ?yr10_14⟩) hSd ?rr10_14
       case yr10_14 => (intro w' hS'; obtain ⟨s0, s1, s2, s3⟩ := hS'; go_simp; try rfl)
       simp only [Act.put, actP]
       refine wpHJ_take (v := ?vr10_15) 15 hFa rfl (by kernel_rfl) (fun _ _ _ h => h.elim) (Or.inl ⟨by rfl, ?yr10_15⟩) hSd ?rr10_15
       case yr10_15 => (intro w' hS'; obtain ⟨s0, s1, s2, s3⟩ := hS'; go_simp; try rfl)
       simp only [Act.put, actP]
       refine wpHJ_take (v := ?vr10_16) 16 hFa rfl (by kernel_rfl) (fun _ _ _ h => h.elim) (Or.inl ⟨by rfl, ?yr10_16⟩) hSd ?rr10_16
       case yr10_16 => (intro w' hS'; obtain ⟨s0, s1, s2, s3⟩ := hS'; go_simp; try rfl)
       simp only [Act.put, actP]
       refine wpHJ_take (v := ?vr10_17) 17 hFa rfl (by kernel_rfl) (fun _ _ _ h => h.elim) (Or.inl ⟨by first | (simp [Region.wanted, yielded]; done) | (simp [Region.wanted, yielded, undef]; done), ?yr10_17⟩) hSd ?rr10_17
       case yr10_17 => (intro w' hS'; obtain ⟨s0, s1, s2, s3⟩ := hS'; go_simp; try rfl)
       simp only [Act.put, actP]
       refine wpHJ_take (v := ?vr10_18) 18 hFa rfl (by kernel_rfl) (fun _ _ _ h => h.elim) (Or.inl ⟨by first | (simp [Region.wanted, yielded]; done) | (simp [Region.wanted, yielded, undef]; done), ?yr10_18⟩) hSd ?rr10_18
       case yr10_18 => (intro w' hS'; obtain ⟨s0, s1, s2, s3⟩ := hS'; go_simp; try rfl)
       simp only [Act.put, actP]
       refine wpHJ_take (v := ?vr10_19) 19 hFa rfl (by kernel_rfl) (fun _ _ _ h => h.elim) (Or.inl ⟨by first | (simp [Region.wanted, yielded]; done) | (simp [Region.wanted, yielded, undef]; done), ?yr10_19⟩) hSd ?rr10_19
       case yr10_19 => (intro w' hS'; obtain ⟨s0, s1, s2, s3⟩ := hS'; go_simp; try rfl)
       simp only [Act.put, actP]
       refine wpHJ_take (v := ?vr10_20) 20 hFa rfl (by kernel_rfl) (fun _ _ _ h => h.elim) (Or.inl ⟨by first | (simp [Region.wanted, yielded]; done) | (simp [Region.wanted, yielded, undef]; done), ?yr10_20⟩) hSd ?rr10_20
       case yr10_20 => (intro w' hS'; obtain ⟨s0, s1, s2, s3⟩ := hS'; go_simp; try rfl)
       simp only [Act.put, actP]
       refine wpHJ_only 21 (by kernel_rfl) rfl ?_
       intro K hK
       rw [if_pos (by first | (simp [Region.wanted, yielded]; done) | (simp [Region.wanted, yielded, undef]; done))]
       go_simp
       (with_reducible refine (callsIn_wide.2 (HNN.out _ (HE.out.step (HBD.out.mono HE.out.size)).e)).mono ?_)
       rintro e wn ⟨rfl, hbn⟩
       rw [HNV.out]
       have hSn : (fun W => W.cell? ⟨w.heap.size, 2, none⟩ = some (.string ⟨([] : Bs).toArray⟩) ∧ W.cell? ⟨w.heap.size, 3, none⟩ = some (.string ⟨n.toArray⟩) ∧ W.cell? ⟨w.heap.size + 1, 0, none⟩ = some (.bool false) ∧ W.cell? ⟨w.heap.size + 1, 1, none⟩ = some (.bool false)) wn := ⟨(hbn.cell (p := ⟨_, _, none⟩) (cell_size hSd.1)).trans hSd.1, (hbn.cell (p := ⟨_, _, none⟩) (cell_size hSd.2.1)).trans hSd.2.1, (hbn.cell (p := ⟨_, _, none⟩) (cell_size hSd.2.2.1)).trans hSd.2.2.1, (hbn.cell (p := ⟨_, _, none⟩) (cell_size hSd.2.2.2)).trans hSd.2.2.2⟩
       have HBN := hid (HBD.out.trans (hbn.mono HBD.out.size))
       have HB1N := hid (HB1D.out.bel hbn)
       clear hbn hSd
       refine hK _ _ (.inr (.inr hSn)) ?_
       clear hK K
       refine wpHJ_take (v := ?vr10_22) 22 hFa rfl (by kernel_rfl) (fun _ _ _ h => h.elim) (Or.inl ⟨by first | (simp [Region.wanted, yielded]; done) | (simp [Region.wanted, yielded, undef]; done), ?yr10_22⟩) hSn ?rr10_22
       case yr10_22 => (intro w' hS'; obtain ⟨s0, s1, s2, s3⟩ := hS'; go_simp; try rfl)
       simp only [Act.put, actP]
       refine wpHJ_take (v := ?vr10_23) 23 hFa rfl (by kernel_rfl) (fun _ _ _ h => h.elim) (Or.inl ⟨by rfl, ?yr10_23⟩) hSn ?rr10_23
       case yr10_23 => (intro w' hS'; obtain ⟨s0, s1, s2, s3⟩ := hS'; go_simp; try rfl)
       simp only [Act.put, actP]
       refine wpHJ_take (v := ?vr10_24) 24 hFa rfl (by kernel_rfl) (fun _ _ _ h => h.elim) (Or.inl ⟨by rfl, ?yr10_24⟩) hSn ?rr10_24
       case yr10_24 => (intro w' hS'; obtain ⟨s0, s1, s2, s3⟩ := hS'; go_simp; try rfl)
       simp only [Act.put, actP]
       refine wpHJ_take (v := undef) 25 hFa rfl (by kernel_rfl) (fun _ _ _ h => h.elim) (Or.inr ⟨by first | (simp [Region.wanted, yielded]; done) | (simp [Region.wanted, yielded, undef]; done), rfl⟩) hSn ?rr10_25
       simp only [Act.put, actP]
       refine wpHJ_take (v := undef) 26 hFa rfl (by kernel_rfl) (fun _ _ _ h => h.elim) (Or.inr ⟨by first | (simp [Region.wanted, yielded]; done) | (simp [Region.wanted, yielded, undef]; done), rfl⟩) hSn ?rr10_26
       simp only [Act.put, actP]
       refine wpHJ_take (v := undef) 27 hFa rfl (by kernel_rfl) (fun _ _ _ h => h.elim) (Or.inr ⟨by first | (simp [Region.wanted, yielded]; done) | (simp [Region.wanted, yielded, undef]; done), rfl⟩) hSn ?rr10_27
       simp only [Act.put, actP]
       refine wpHJ_take (v := undef) 28 hFa rfl (by kernel_rfl) (fun _ _ _ h => h.elim) (Or.inr ⟨by first | (simp [Region.wanted, yielded]; done) | (simp [Region.wanted, yielded, undef]; done), rfl⟩) hSn ?rr10_28
       simp only [Act.put, actP]
       refine wpHJ_take (v := undef) 29 hFa rfl (by kernel_rfl) (fun _ _ _ h => h.elim) (Or.inr ⟨by first | (simp [Region.wanted, yielded]; done) | (simp [Region.wanted, yielded, undef]; done), rfl⟩) hSn ?rr10_29
       simp only [Act.put, actP]
       refine wpHJ_take (v := undef) 30 hFa rfl (by kernel_rfl) (fun _ _ _ h => h.elim) (Or.inr ⟨by first | (simp [Region.wanted, yielded]; done) | (simp [Region.wanted, yielded, undef]; done), rfl⟩) hSn ?rr10_30
       simp only [Act.put, actP]
       refine wpHJ_take (v := undef) 31 hFa rfl (by kernel_rfl) (fun _ _ _ h => h.elim) (Or.inr ⟨by first | (simp [Region.wanted, yielded]; done) | (simp [Region.wanted, yielded, undef]; done), rfl⟩) hSn ?rr10_31
       simp only [Act.put, actP]
       refine wpHJ_take (v := undef) 32 hFa rfl (by kernel_rfl) (fun _ _ _ h => h.elim) (Or.inr ⟨by first | (simp [Region.wanted, yielded]; done) | (simp [Region.wanted, yielded, undef]; done), rfl⟩) hSn ?rr10_32
       simp only [Act.put, actP]
       refine wpHJ_only 33 (by kernel_rfl) rfl ?_
       intro K hK
       go_simp
       refine hK _ _ (.inr (.inr hSn)) ?_
       clear hK K
       refine wpHJ_done (by kernel_rfl) ?_ _
       simp only [onlyN, Exit.then]
       clear hFa
       go_wp2_with fail
       go_meet
       case rel => exact ⟨by rw [HD.out, HN.out]; first | rfl | (simp [fieldB, HDV.out, HNV.out]; done) | (simp [fieldB, HDV.out, HNV.out, HNE.out]; done) | (simp [fieldB, HDV.out, HNV.out, HDE.out]; done) | (simp [fieldB, HDV.out, HNV.out, named_ne HNV.out]; done) | (simp [fieldB, HDV.out, HNV.out, named_ne HDV.out]; done), HB1N.out, HBN.out⟩
      | false =>
       have HNV := hid hnv; clear hnv
       by_cases hne : n = []
       ·subst hne
        have hFa : ∀ f, Fence.wide.fn f := fun _ => trivial
        refine (wpIn_wide (n := 9)).1 ?_
        refine wpIn_onlyN ?_
        refine wpIn_region_HJ (fun W => W.cell? ⟨w.heap.size, 2, none⟩ = some (.string ⟨([] : Bs).toArray⟩) ∧ W.cell? ⟨w.heap.size, 3, none⟩ = some (.string ⟨([] : Bs).toArray⟩) ∧ W.cell? ⟨w.heap.size + 1, 0, none⟩ = some (.bool false) ∧ W.cell? ⟨w.heap.size + 1, 1, none⟩ = some (.bool false)) 34 (by kernel_rfl) ?_
        simp only [List.size_toArray, List.length_cons, List.length_nil, Nat.reduceAdd]
        refine wpHJ_take (v := ?vr11_0) 0 hFa rfl (by kernel_rfl) (fun _ _ _ h => h.elim) (Or.inl ⟨by rfl, ?yr11_0⟩) hS ?rr11_0
        case yr11_0 => (intro w' hS'; obtain ⟨s0, s1, s2, s3⟩ := hS'; go_simp; try rfl)
        simp only [Act.put, actP]
        refine wpHJ_take (v := ?vr11_1) 1 hFa rfl (by kernel_rfl) (fun _ _ _ h => h.elim) (Or.inl ⟨by rfl, ?yr11_1⟩) hS ?rr11_1
        case yr11_1 => (intro w' hS'; obtain ⟨s0, s1, s2, s3⟩ := hS'; go_simp; try rfl)
        simp only [Act.put, actP]
        refine wpHJ_take (v := ?vr11_2) 2 hFa rfl (by kernel_rfl) (fun _ _ _ h => h.elim) (Or.inl ⟨by rfl, ?yr11_2⟩) hS ?rr11_2
        case yr11_2 => (intro w' hS'; obtain ⟨s0, s1, s2, s3⟩ := hS'; go_simp; try rfl)
        simp only [Act.put, actP]
        refine wpHJ_take (v := ?vr11_3) 3 hFa rfl (by kernel_rfl) (fun _ _ _ h => h.elim) (Or.inl ⟨by rfl, ?yr11_3⟩) hS ?rr11_3
        case yr11_3 => (intro w' hS'; obtain ⟨s0, s1, s2, s3⟩ := hS'; go_simp; try rfl)
        simp only [Act.put, actP]
        refine wpHJ_only 4 (by kernel_rfl) rfl ?_
        intro K hK
        go_simp
        (with_reducible refine (callsIn_wide.2 (HND.out _ (HE.out.step ((HBW.out.drew).mono HE.out.size)).e)).mono ?_)
        rintro e wd ⟨rfl, hbd⟩
        rw [HDV.out]
        have hSd : (fun W => W.cell? ⟨w.heap.size, 2, none⟩ = some (.string ⟨([] : Bs).toArray⟩) ∧ W.cell? ⟨w.heap.size, 3, none⟩ = some (.string ⟨([] : Bs).toArray⟩) ∧ W.cell? ⟨w.heap.size + 1, 0, none⟩ = some (.bool false) ∧ W.cell? ⟨w.heap.size + 1, 1, none⟩ = some (.bool false)) wd := ⟨(hbd.cell (p := ⟨_, _, none⟩) (cell_size hS.1)).trans hS.1, (hbd.cell (p := ⟨_, _, none⟩) (cell_size hS.2.1)).trans hS.2.1, (hbd.cell (p := ⟨_, _, none⟩) (cell_size hS.2.2.1)).trans hS.2.2.1, (hbd.cell (p := ⟨_, _, none⟩) (cell_size hS.2.2.2)).trans hS.2.2.2⟩
        have HBD := hid (HBW.out.drew.trans (hbd.mono HBW.out.size))
        have HB1D := hid ((show BxL 26 w.heap.size (inL x (.slice pa x.args.length ca)) wc.drew from HB1.out).bel hbd)
        clear hbd hS
        refine hK _ _ (.inr (.inr hSd)) ?_
        clear hK K
        refine wpHJ_take (v := ?vr11_5) 5 hFa rfl (by kernel_rfl) (fun _ _ _ h => h.elim) (Or.inl ⟨by rfl, ?yr11_5⟩) hSd ?rr11_5
        case yr11_5 => (intro w' hS'; obtain ⟨s0, s1, s2, s3⟩ := hS'; go_simp; try rfl)
        simp only [Act.put, actP]
        refine wpHJ_take (v := ?vr11_6) 6 hFa rfl (by kernel_rfl) (fun _ _ _ h => h.elim) (Or.inl ⟨by rfl, ?yr11_6⟩) hSd ?rr11_6
        case yr11_6 => (intro w' hS'; obtain ⟨s0, s1, s2, s3⟩ := hS'; go_simp; try rfl)
        simp only [Act.put, actP]
        refine wpHJ_take (v := ?vr11_7) 7 hFa rfl (by kernel_rfl) (fun _ _ _ h => h.elim) (Or.inl ⟨by first | (simp [Region.wanted, yielded]; done) | (simp [Region.wanted, yielded, undef]; done), ?yr11_7⟩) hSd ?rr11_7
        case yr11_7 => (intro w' hS'; obtain ⟨s0, s1, s2, s3⟩ := hS'; go_simp; try rfl)
        simp only [Act.put, actP]
        refine wpHJ_take (v := ?vr11_8) 8 hFa rfl (by kernel_rfl) (fun _ _ _ h => h.elim) (Or.inl ⟨by first | (simp [Region.wanted, yielded]; done) | (simp [Region.wanted, yielded, undef]; done), ?yr11_8⟩) hSd ?rr11_8
        case yr11_8 => (intro w' hS'; obtain ⟨s0, s1, s2, s3⟩ := hS'; go_simp; try rfl)
        simp only [Act.put, actP]
        refine wpHJ_take (v := ?vr11_9) 9 hFa rfl (by kernel_rfl) (fun _ _ _ h => h.elim) (Or.inl ⟨by first | (simp [Region.wanted, yielded]; done) | (simp [Region.wanted, yielded, undef]; done), ?yr11_9⟩) hSd ?rr11_9
        case yr11_9 => (intro w' hS'; obtain ⟨s0, s1, s2, s3⟩ := hS'; go_simp; try rfl)
        simp only [Act.put, actP]
        refine wpHJ_take (v := ?vr11_10) 10 hFa rfl (by kernel_rfl) (fun _ _ _ h => h.elim) (Or.inl ⟨by first | (simp [Region.wanted, yielded]; done) | (simp [Region.wanted, yielded, undef]; done), ?yr11_10⟩) hSd ?rr11_10
        case yr11_10 => (intro w' hS'; obtain ⟨s0, s1, s2, s3⟩ := hS'; go_simp; try rfl)
        simp only [Act.put, actP]
        refine wpHJ_take (v := ?vr11_11) 11 hFa rfl (by kernel_rfl) (fun _ _ _ h => h.elim) (Or.inl ⟨by first | (simp [Region.wanted, yielded]; done) | (simp [Region.wanted, yielded, undef]; done), ?yr11_11⟩) hSd ?rr11_11
        case yr11_11 => (intro w' hS'; obtain ⟨s0, s1, s2, s3⟩ := hS'; go_simp; try rfl)
        simp only [Act.put, actP]
        refine wpHJ_take (v := ?vr11_12) 12 hFa rfl (by kernel_rfl) (fun _ _ _ h => h.elim) (Or.inl ⟨by first | (simp [Region.wanted, yielded]; done) | (simp [Region.wanted, yielded, undef]; done), ?yr11_12⟩) hSd ?rr11_12
        case yr11_12 => (intro w' hS'; obtain ⟨s0, s1, s2, s3⟩ := hS'; go_simp; try rfl)
        simp only [Act.put, actP]
        refine wpHJ_take (v := ?vr11_13) 13 hFa rfl (by kernel_rfl) (fun _ _ _ h => h.elim) (Or.inl ⟨by first | (simp [Region.wanted, yielded]; done) | (simp [Region.wanted, yielded, undef]; done), ?yr11_13⟩) hSd ?rr11_13
        case yr11_13 => (intro w' hS'; obtain ⟨s0, s1, s2, s3⟩ := hS'; go_simp; try rfl)
        simp only [Act.put, actP]
        refine wpHJ_take (v := ?vr11_14) 14 hFa rfl (by kernel_rfl) (fun _ _ _ h => h.elim) (Or.inl ⟨by first | (simp [Region.wanted, yielded]; done) | (simp [Region.wanted, yielded, undef]; done), ?yr11_14⟩) hSd ?rr11_14
        case yr11_14 => (intro w' hS'; obtain ⟨s0, s1, s2, s3⟩ := hS'; go_simp; try rfl)
        simp only [Act.put, actP]
        refine wpHJ_take (v := ?vr11_15) 15 hFa rfl (by kernel_rfl) (fun _ _ _ h => h.elim) (Or.inl ⟨by rfl, ?yr11_15⟩) hSd ?rr11_15
        case yr11_15 => (intro w' hS'; obtain ⟨s0, s1, s2, s3⟩ := hS'; go_simp; try rfl)
        simp only [Act.put, actP]
        refine wpHJ_take (v := ?vr11_16) 16 hFa rfl (by kernel_rfl) (fun _ _ _ h => h.elim) (Or.inl ⟨by rfl, ?yr11_16⟩) hSd ?rr11_16
        case yr11_16 => (intro w' hS'; obtain ⟨s0, s1, s2, s3⟩ := hS'; go_simp; try rfl)
        simp only [Act.put, actP]
        refine wpHJ_take (v := ?vr11_17) 17 hFa rfl (by kernel_rfl) (fun _ _ _ h => h.elim) (Or.inl ⟨by first | (simp [Region.wanted, yielded]; done) | (simp [Region.wanted, yielded, undef]; done), ?yr11_17⟩) hSd ?rr11_17
        case yr11_17 => (intro w' hS'; obtain ⟨s0, s1, s2, s3⟩ := hS'; go_simp; try rfl)
        simp only [Act.put, actP]
        refine wpHJ_take (v := ?vr11_18) 18 hFa rfl (by kernel_rfl) (fun _ _ _ h => h.elim) (Or.inl ⟨by first | (simp [Region.wanted, yielded]; done) | (simp [Region.wanted, yielded, undef]; done), ?yr11_18⟩) hSd ?rr11_18
        case yr11_18 => (intro w' hS'; obtain ⟨s0, s1, s2, s3⟩ := hS'; go_simp; try rfl)
        simp only [Act.put, actP]
        refine wpHJ_take (v := ?vr11_19) 19 hFa rfl (by kernel_rfl) (fun _ _ _ h => h.elim) (Or.inl ⟨by first | (simp [Region.wanted, yielded]; done) | (simp [Region.wanted, yielded, undef]; done), ?yr11_19⟩) hSd ?rr11_19
        case yr11_19 => (intro w' hS'; obtain ⟨s0, s1, s2, s3⟩ := hS'; go_simp; try rfl)
        simp only [Act.put, actP]
        refine wpHJ_take (v := ?vr11_20) 20 hFa rfl (by kernel_rfl) (fun _ _ _ h => h.elim) (Or.inl ⟨by first | (simp [Region.wanted, yielded]; done) | (simp [Region.wanted, yielded, undef]; done), ?yr11_20⟩) hSd ?rr11_20
        case yr11_20 => (intro w' hS'; obtain ⟨s0, s1, s2, s3⟩ := hS'; go_simp; try rfl)
        simp only [Act.put, actP]
        refine wpHJ_only 21 (by kernel_rfl) rfl ?_
        intro K hK
        rw [if_pos (by first | (simp [Region.wanted, yielded]; done) | (simp [Region.wanted, yielded, undef]; done))]
        go_simp
        (with_reducible refine (callsIn_wide.2 (HNN.out _ (HE.out.step (HBD.out.mono HE.out.size)).e)).mono ?_)
        rintro e wn ⟨rfl, hbn⟩
        rw [HNV.out]
        have hSn : (fun W => W.cell? ⟨w.heap.size, 2, none⟩ = some (.string ⟨([] : Bs).toArray⟩) ∧ W.cell? ⟨w.heap.size, 3, none⟩ = some (.string ⟨([] : Bs).toArray⟩) ∧ W.cell? ⟨w.heap.size + 1, 0, none⟩ = some (.bool false) ∧ W.cell? ⟨w.heap.size + 1, 1, none⟩ = some (.bool false)) wn := ⟨(hbn.cell (p := ⟨_, _, none⟩) (cell_size hSd.1)).trans hSd.1, (hbn.cell (p := ⟨_, _, none⟩) (cell_size hSd.2.1)).trans hSd.2.1, (hbn.cell (p := ⟨_, _, none⟩) (cell_size hSd.2.2.1)).trans hSd.2.2.1, (hbn.cell (p := ⟨_, _, none⟩) (cell_size hSd.2.2.2)).trans hSd.2.2.2⟩
        have HBN := hid (HBD.out.trans (hbn.mono HBD.out.size))
        have HB1N := hid (HB1D.out.bel hbn)
        clear hbn hSd
        refine hK _ _ (.inr (.inr hSn)) ?_
        clear hK K
        refine wpHJ_take (v := ?vr11_22) 22 hFa rfl (by kernel_rfl) (fun _ _ _ h => h.elim) (Or.inl ⟨by first | (simp [Region.wanted, yielded]; done) | (simp [Region.wanted, yielded, undef]; done), ?yr11_22⟩) hSn ?rr11_22
        case yr11_22 => (intro w' hS'; obtain ⟨s0, s1, s2, s3⟩ := hS'; go_simp; try rfl)
        simp only [Act.put, actP]
        refine wpHJ_take (v := ?vr11_23) 23 hFa rfl (by kernel_rfl) (fun _ _ _ h => h.elim) (Or.inl ⟨by rfl, ?yr11_23⟩) hSn ?rr11_23
        case yr11_23 => (intro w' hS'; obtain ⟨s0, s1, s2, s3⟩ := hS'; go_simp; try rfl)
        simp only [Act.put, actP]
        refine wpHJ_take (v := ?vr11_24) 24 hFa rfl (by kernel_rfl) (fun _ _ _ h => h.elim) (Or.inl ⟨by rfl, ?yr11_24⟩) hSn ?rr11_24
        case yr11_24 => (intro w' hS'; obtain ⟨s0, s1, s2, s3⟩ := hS'; go_simp; try rfl)
        simp only [Act.put, actP]
        refine wpHJ_take (v := ?vr11_25) 25 hFa rfl (by kernel_rfl) (fun _ _ _ h => h.elim) (Or.inl ⟨by first | (simp [Region.wanted, yielded]; done) | (simp [Region.wanted, yielded, undef]; done), ?yr11_25⟩) hSn ?rr11_25
        case yr11_25 => (intro w' hS'; obtain ⟨s0, s1, s2, s3⟩ := hS'; go_simp; try rfl)
        simp only [Act.put, actP]
        refine wpHJ_take (v := ?vr11_26) 26 hFa rfl (by kernel_rfl) (fun _ _ _ h => h.elim) (Or.inl ⟨by first | (simp [Region.wanted, yielded]; done) | (simp [Region.wanted, yielded, undef]; done), ?yr11_26⟩) hSn ?rr11_26
        case yr11_26 => (intro w' hS'; obtain ⟨s0, s1, s2, s3⟩ := hS'; go_simp; try rfl)
        simp only [Act.put, actP]
        refine wpHJ_take (v := ?vr11_27) 27 hFa rfl (by kernel_rfl) (fun _ _ _ h => h.elim) (Or.inl ⟨by first | (simp [Region.wanted, yielded]; done) | (simp [Region.wanted, yielded, undef]; done), ?yr11_27⟩) hSn ?rr11_27
        case yr11_27 => (intro w' hS'; obtain ⟨s0, s1, s2, s3⟩ := hS'; go_simp; try rfl)
        simp only [Act.put, actP]
        refine wpHJ_take (v := ?vr11_28) 28 hFa rfl (by kernel_rfl) (fun _ _ _ h => h.elim) (Or.inl ⟨by first | (simp [Region.wanted, yielded]; done) | (simp [Region.wanted, yielded, undef]; done), ?yr11_28⟩) hSn ?rr11_28
        case yr11_28 => (intro w' hS'; obtain ⟨s0, s1, s2, s3⟩ := hS'; go_simp; try rfl)
        simp only [Act.put, actP]
        refine wpHJ_take (v := ?vr11_29) 29 hFa rfl (by kernel_rfl) (fun _ _ _ h => h.elim) (Or.inl ⟨by first | (simp [Region.wanted, yielded]; done) | (simp [Region.wanted, yielded, undef]; done), ?yr11_29⟩) hSn ?rr11_29
        case yr11_29 => (intro w' hS'; obtain ⟨s0, s1, s2, s3⟩ := hS'; go_simp; try rfl)
        simp only [Act.put, actP]
        refine wpHJ_take (v := ?vr11_30) 30 hFa rfl (by kernel_rfl) (fun _ _ _ h => h.elim) (Or.inl ⟨by first | (simp [Region.wanted, yielded]; done) | (simp [Region.wanted, yielded, undef]; done), ?yr11_30⟩) hSn ?rr11_30
        case yr11_30 => (intro w' hS'; obtain ⟨s0, s1, s2, s3⟩ := hS'; go_simp; try rfl)
        simp only [Act.put, actP]
        refine wpHJ_take (v := ?vr11_31) 31 hFa rfl (by kernel_rfl) (fun _ _ _ h => h.elim) (Or.inl ⟨by first | (simp [Region.wanted, yielded]; done) | (simp [Region.wanted, yielded, undef]; done), ?yr11_31⟩) hSn ?rr11_31
        case yr11_31 => (intro w' hS'; obtain ⟨s0, s1, s2, s3⟩ := hS'; go_simp; try rfl)
        simp only [Act.put, actP]
        refine wpHJ_take (v := ?vr11_32) 32 hFa rfl (by kernel_rfl) (fun _ _ _ h => h.elim) (Or.inl ⟨by first | (simp [Region.wanted, yielded]; done) | (simp [Region.wanted, yielded, undef]; done), ?yr11_32⟩) hSn ?rr11_32
        case yr11_32 => (intro w' hS'; obtain ⟨s0, s1, s2, s3⟩ := hS'; go_simp; try rfl)
        simp only [Act.put, actP]
        refine wpHJ_only 33 (by kernel_rfl) rfl ?_
        intro K hK
        go_simp
        refine hK _ _ (.inr (.inr hSn)) ?_
        clear hK K
        refine wpHJ_done (by kernel_rfl) ?_ _
        simp only [onlyN, Exit.then]
        clear hFa
        go_wp2_with fail
        go_meet
        case rel => exact ⟨by rw [HD.out, HN.out]; first | rfl | (simp [fieldB, HDV.out, HNV.out]; done) | (simp [fieldB, HDV.out, HNV.out, HNE.out]; done) | (simp [fieldB, HDV.out, HNV.out, HDE.out]; done) | (simp [fieldB, HDV.out, HNV.out, named_ne HNV.out]; done) | (simp [fieldB, HDV.out, HNV.out, named_ne HDV.out]; done), HB1N.out, HBN.out⟩
       ·have HNE := hid hne
        have e1 : (n == []) = false := beq_eq_false_iff_ne.2 hne
        have e2 : n.isEmpty = false := by cases n with | nil => exact absurd rfl hne | cons a r => rfl
        have e3 : (n != []) = true := by rw [bne, e1]; rfl
        have hFa : ∀ f, Fence.wide.fn f := fun _ => trivial
        refine (wpIn_wide (n := 9)).1 ?_
        refine wpIn_onlyN ?_
        refine wpIn_region_HJ (fun W => W.cell? ⟨w.heap.size, 2, none⟩ = some (.string ⟨([] : Bs).toArray⟩) ∧ W.cell? ⟨w.heap.size, 3, none⟩ = some (.string ⟨n.toArray⟩) ∧ W.cell? ⟨w.heap.size + 1, 0, none⟩ = some (.bool false) ∧ W.cell? ⟨w.heap.size + 1, 1, none⟩ = some (.bool false)) 34 (by kernel_rfl) ?_
        simp only [List.size_toArray, List.length_cons, List.length_nil, Nat.reduceAdd]
        refine wpHJ_take (v := ?vr12_0) 0 hFa rfl (by kernel_rfl) (fun _ _ _ h => h.elim) (Or.inl ⟨by rfl, ?yr12_0⟩) hS ?rr12_0
        case yr12_0 => (intro w' hS'; obtain ⟨s0, s1, s2, s3⟩ := hS'; go_simp; try rfl)
        simp only [Act.put, actP]
        refine wpHJ_take (v := ?vr12_1) 1 hFa rfl (by kernel_rfl) (fun _ _ _ h => h.elim) (Or.inl ⟨by rfl, ?yr12_1⟩) hS ?rr12_1
        case yr12_1 => (intro w' hS'; obtain ⟨s0, s1, s2, s3⟩ := hS'; go_simp; try rfl)
        simp only [Act.put, actP]
        refine wpHJ_take (v := ?vr12_2) 2 hFa rfl (by kernel_rfl) (fun _ _ _ h => h.elim) (Or.inl ⟨by rfl, ?yr12_2⟩) hS ?rr12_2
        case yr12_2 => (intro w' hS'; obtain ⟨s0, s1, s2, s3⟩ := hS'; go_simp; try rfl)
        simp only [Act.put, actP]
        refine wpHJ_take (v := ?vr12_3) 3 hFa rfl (by kernel_rfl) (fun _ _ _ h => h.elim) (Or.inl ⟨by rfl, ?yr12_3⟩) hS ?rr12_3
        case yr12_3 => (intro w' hS'; obtain ⟨s0, s1, s2, s3⟩ := hS'; go_simp; try rfl)
        simp only [Act.put, actP]
        refine wpHJ_only 4 (by kernel_rfl) rfl ?_
        intro K hK
        go_simp
        (with_reducible refine (callsIn_wide.2 (HND.out _ (HE.out.step ((HBW.out.drew).mono HE.out.size)).e)).mono ?_)
        rintro e wd ⟨rfl, hbd⟩
        rw [HDV.out]
        have hSd : (fun W => W.cell? ⟨w.heap.size, 2, none⟩ = some (.string ⟨([] : Bs).toArray⟩) ∧ W.cell? ⟨w.heap.size, 3, none⟩ = some (.string ⟨n.toArray⟩) ∧ W.cell? ⟨w.heap.size + 1, 0, none⟩ = some (.bool false) ∧ W.cell? ⟨w.heap.size + 1, 1, none⟩ = some (.bool false)) wd := ⟨(hbd.cell (p := ⟨_, _, none⟩) (cell_size hS.1)).trans hS.1, (hbd.cell (p := ⟨_, _, none⟩) (cell_size hS.2.1)).trans hS.2.1, (hbd.cell (p := ⟨_, _, none⟩) (cell_size hS.2.2.1)).trans hS.2.2.1, (hbd.cell (p := ⟨_, _, none⟩) (cell_size hS.2.2.2)).trans hS.2.2.2⟩
        have HBD := hid (HBW.out.drew.trans (hbd.mono HBW.out.size))
        have HB1D := hid ((show BxL 26 w.heap.size (inL x (.slice pa x.args.length ca)) wc.drew from HB1.out).bel hbd)
        clear hbd hS
        refine hK _ _ (.inr (.inr hSd)) ?_
        clear hK K
        refine wpHJ_take (v := ?vr12_5) 5 hFa rfl (by kernel_rfl) (fun _ _ _ h => h.elim) (Or.inl ⟨by rfl, ?yr12_5⟩) hSd ?rr12_5
        case yr12_5 => (intro w' hS'; obtain ⟨s0, s1, s2, s3⟩ := hS'; go_simp; try rfl)
        simp only [Act.put, actP]
        refine wpHJ_take (v := ?vr12_6) 6 hFa rfl (by kernel_rfl) (fun _ _ _ h => h.elim) (Or.inl ⟨by rfl, ?yr12_6⟩) hSd ?rr12_6
        case yr12_6 => (intro w' hS'; obtain ⟨s0, s1, s2, s3⟩ := hS'; go_simp; try rfl)
        simp only [Act.put, actP]
        refine wpHJ_take (v := ?vr12_7) 7 hFa rfl (by kernel_rfl) (fun _ _ _ h => h.elim) (Or.inl ⟨by first | (simp [Region.wanted, yielded]; done) | (simp [Region.wanted, yielded, undef]; done), ?yr12_7⟩) hSd ?rr12_7
        case yr12_7 => (intro w' hS'; obtain ⟨s0, s1, s2, s3⟩ := hS'; go_simp; try rfl)
        simp only [Act.put, actP]
        refine wpHJ_take (v := ?vr12_8) 8 hFa rfl (by kernel_rfl) (fun _ _ _ h => h.elim) (Or.inl ⟨by first | (simp [Region.wanted, yielded]; done) | (simp [Region.wanted, yielded, undef]; done), ?yr12_8⟩) hSd ?rr12_8
        case yr12_8 => (intro w' hS'; obtain ⟨s0, s1, s2, s3⟩ := hS'; go_simp; try rfl)
        simp only [Act.put, actP]
        refine wpHJ_take (v := ?vr12_9) 9 hFa rfl (by kernel_rfl) (fun _ _ _ h => h.elim) (Or.inl ⟨by first | (simp [Region.wanted, yielded]; done) | (simp [Region.wanted, yielded, undef]; done), ?yr12_9⟩) hSd ?rr12_9
        case yr12_9 => (intro w' hS'; obtain ⟨s0, s1, s2, s3⟩ := hS'; go_simp; try rfl)
        simp only [Act.put, actP]
        refine wpHJ_take (v := ?vr12_10) 10 hFa rfl (by kernel_rfl) (fun _ _ _ h => h.elim) (Or.inl ⟨by first | (simp [Region.wanted, yielded]; done) | (simp [Region.wanted, yielded, undef]; done), ?yr12_10⟩) hSd ?rr12_10
        case yr12_10 => (intro w' hS'; obtain ⟨s0, s1, s2, s3⟩ := hS'; go_simp; try rfl)
        simp only [Act.put, actP]
        refine wpHJ_take (v := ?vr12_11) 11 hFa rfl (by kernel_rfl) (fun _ _ _ h => h.elim) (Or.inl ⟨by first | (simp [Region.wanted, yielded]; done) | (simp [Region.wanted, yielded, undef]; done), ?yr12_11⟩) hSd ?rr12_11
        case yr12_11 => (intro w' hS'; obtain ⟨s0, s1, s2, s3⟩ := hS'; go_simp; try rfl)
        simp only [Act.put, actP]
        refine wpHJ_take (v := ?vr12_12) 12 hFa rfl (by kernel_rfl) (fun _ _ _ h => h.elim) (Or.inl ⟨by first | (simp [Region.wanted, yielded]; done) | (simp [Region.wanted, yielded, undef]; done), ?yr12_12⟩) hSd ?rr12_12
        case yr12_12 => (intro w' hS'; obtain ⟨s0, s1, s2, s3⟩ := hS'; go_simp; try rfl)
        simp only [Act.put, actP]
        refine wpHJ_take (v := ?vr12_13) 13 hFa rfl (by kernel_rfl) (fun _ _ _ h => h.elim) (Or.inl ⟨by first | (simp [Region.wanted, yielded]; done) | (simp [Region.wanted, yielded, undef]; done), ?yr12_13⟩) hSd ?rr12_13
        case yr12_13 => (intro w' hS'; obtain ⟨s0, s1, s2, s3⟩ := hS'; go_simp; try rfl)
        simp only [Act.put, actP]
        refine wpHJ_take (v := ?vr12_14) 14 hFa rfl (by kernel_rfl) (fun _ _ _ h => h.elim) (Or.inl ⟨by first | (simp [Region.wanted, yielded]; done) | (simp [Region.wanted, yielded, undef]; done), ?yr12_14⟩) hSd ?rr12_14
        case yr12_14 => (intro w' hS'; obtain ⟨s0, s1, s2, s3⟩ := hS'; go_simp; try rfl)
        simp only [Act.put, actP]
        refine wpHJ_take (v := ?vr12_15) 15 hFa rfl (by kernel_rfl) (fun _ _ _ h => h.elim) (Or.inl ⟨by rfl, ?yr12_15⟩) hSd ?rr12_15
        case yr12_15 => (intro w' hS'; obtain ⟨s0, s1, s2, s3⟩ := hS'; go_simp; try rfl)
        simp only [Act.put, actP]
        refine wpHJ_take (v := ?vr12_16) 16 hFa rfl (by kernel_rfl) (fun _ _ _ h => h.elim) (Or.inl ⟨by rfl, ?yr12_16⟩) hSd ?rr12_16
        case yr12_16 => (intro w' hS'; obtain ⟨s0, s1, s2, s3⟩ := hS'; go_simp; try rfl)
        simp only [Act.put, actP]
        refine wpHJ_take (v := ?vr12_17) 17 hFa rfl (by kernel_rfl) (fun _ _ _ h => h.elim) (Or.inl ⟨by first | (simp [Region.wanted, yielded]; done) | (simp [Region.wanted, yielded, undef]; done), ?yr12_17⟩) hSd ?rr12_17
        case yr12_17 => (intro w' hS'; obtain ⟨s0, s1, s2, s3⟩ := hS'; go_simp; try rfl)
        simp only [Act.put, actP]
        refine wpHJ_take (v := ?vr12_18) 18 hFa rfl (by kernel_rfl) (fun _ _ _ h => h.elim) (Or.inl ⟨by first | (simp [Region.wanted, yielded]; done) | (simp [Region.wanted, yielded, undef]; done), ?yr12_18⟩) hSd ?rr12_18
        case yr12_18 => (intro w' hS'; obtain ⟨s0, s1, s2, s3⟩ := hS'; go_simp; try rfl)
        simp only [Act.put, actP]
        refine wpHJ_take (v := ?vr12_19) 19 hFa rfl (by kernel_rfl) (fun _ _ _ h => h.elim) (Or.inl ⟨by first | (simp [Region.wanted, yielded]; done) | (simp [Region.wanted, yielded, undef]; done), ?yr12_19⟩) hSd ?rr12_19
        case yr12_19 => (intro w' hS'; obtain ⟨s0, s1, s2, s3⟩ := hS'; go_simp; try rfl)
        simp only [Act.put, actP]
        refine wpHJ_take (v := ?vr12_20) 20 hFa rfl (by kernel_rfl) (fun _ _ _ h => h.elim) (Or.inl ⟨by first | (simp [Region.wanted, yielded]; done) | (simp [Region.wanted, yielded, undef]; done), ?yr12_20⟩) hSd ?rr12_20
        case yr12_20 => (intro w' hS'; obtain ⟨s0, s1, s2, s3⟩ := hS'; go_simp; try rfl)
        simp only [Act.put, actP]
        refine wpHJ_only 21 (by kernel_rfl) rfl ?_
        intro K hK
        rw [if_pos (by first | (simp [Region.wanted, yielded]; done) | (simp [Region.wanted, yielded, undef]; done))]
        go_simp
        (with_reducible refine (callsIn_wide.2 (HNN.out _ (HE.out.step (HBD.out.mono HE.out.size)).e)).mono ?_)
        rintro e wn ⟨rfl, hbn⟩
        rw [HNV.out]
        have hSn : (fun W => W.cell? ⟨w.heap.size, 2, none⟩ = some (.string ⟨([] : Bs).toArray⟩) ∧ W.cell? ⟨w.heap.size, 3, none⟩ = some (.string ⟨n.toArray⟩) ∧ W.cell? ⟨w.heap.size + 1, 0, none⟩ = some (.bool false) ∧ W.cell? ⟨w.heap.size + 1, 1, none⟩ = some (.bool false)) wn := ⟨(hbn.cell (p := ⟨_, _, none⟩) (cell_size hSd.1)).trans hSd.1, (hbn.cell (p := ⟨_, _, none⟩) (cell_size hSd.2.1)).trans hSd.2.1, (hbn.cell (p := ⟨_, _, none⟩) (cell_size hSd.2.2.1)).trans hSd.2.2.1, (hbn.cell (p := ⟨_, _, none⟩) (cell_size hSd.2.2.2)).trans hSd.2.2.2⟩
        have HBN := hid (HBD.out.trans (hbn.mono HBD.out.size))
        have HB1N := hid (HB1D.out.bel hbn)
        clear hbn hSd
        refine hK _ _ (.inr (.inr hSn)) ?_
        clear hK K
        refine wpHJ_take (v := ?vr12_22) 22 hFa rfl (by kernel_rfl) (fun _ _ _ h => h.elim) (Or.inl ⟨by first | (simp [Region.wanted, yielded]; done) | (simp [Region.wanted, yielded, undef]; done), ?yr12_22⟩) hSn ?rr12_22
        case yr12_22 => (intro w' hS'; obtain ⟨s0, s1, s2, s3⟩ := hS'; go_simp; try rfl)
        simp only [Act.put, actP]
        refine wpHJ_take (v := ?vr12_23) 23 hFa rfl (by kernel_rfl) (fun _ _ _ h => h.elim) (Or.inl ⟨by rfl, ?yr12_23⟩) hSn ?rr12_23
        case yr12_23 => (intro w' hS'; obtain ⟨s0, s1, s2, s3⟩ := hS'; go_simp; try rfl)
        simp only [Act.put, actP]
        refine wpHJ_take (v := ?vr12_24) 24 hFa rfl (by kernel_rfl) (fun _ _ _ h => h.elim) (Or.inl ⟨by rfl, ?yr12_24⟩) hSn ?rr12_24
        case yr12_24 => (intro w' hS'; obtain ⟨s0, s1, s2, s3⟩ := hS'; go_simp; try rfl)
        simp only [Act.put, actP]
        refine wpHJ_take (v := ?vr12_25) 25 hFa rfl (by kernel_rfl) (fun _ _ _ h => h.elim) (Or.inl ⟨by first | (simp [Region.wanted, yielded]; done) | (simp [Region.wanted, yielded, undef]; done), ?yr12_25⟩) hSn ?rr12_25
        case yr12_25 => (intro w' hS'; obtain ⟨s0, s1, s2, s3⟩ := hS'; go_simp; try rfl)
        simp only [Act.put, actP]
        refine wpHJ_take (v := ?vr12_26) 26 hFa rfl (by kernel_rfl) (fun _ _ _ h => h.elim) (Or.inl ⟨by first | (simp [Region.wanted, yielded]; done) | (simp [Region.wanted, yielded, undef]; done), ?yr12_26⟩) hSn ?rr12_26
        case yr12_26 => (intro w' hS'; obtain ⟨s0, s1, s2, s3⟩ := hS'; go_simp; try rfl)
        simp only [Act.put, actP]
        refine wpHJ_take (v := ?vr12_27) 27 hFa rfl (by kernel_rfl) (fun _ _ _ h => h.elim) (Or.inl ⟨by first | (simp [Region.wanted, yielded]; done) | (simp [Region.wanted, yielded, undef]; done), ?yr12_27⟩) hSn ?rr12_27
        case yr12_27 => (intro w' hS'; obtain ⟨s0, s1, s2, s3⟩ := hS'; go_simp; try rfl)
        simp only [Act.put, actP]
        refine wpHJ_take (v := ?vr12_28) 28 hFa rfl (by kernel_rfl) (fun _ _ _ h => h.elim) (Or.inl ⟨by first | (simp [Region.wanted, yielded]; done) | (simp [Region.wanted, yielded, undef]; done), ?yr12_28⟩) hSn ?rr12_28
        case yr12_28 => (intro w' hS'; obtain ⟨s0, s1, s2, s3⟩ := hS'; go_simp; try rfl)
        simp only [Act.put, actP]
        refine wpHJ_take (v := ?vr12_29) 29 hFa rfl (by kernel_rfl) (fun _ _ _ h => h.elim) (Or.inl ⟨by first | (simp [Region.wanted, yielded]; done) | (simp [Region.wanted, yielded, undef]; done), ?yr12_29⟩) hSn ?rr12_29
        case yr12_29 => (intro w' hS'; obtain ⟨s0, s1, s2, s3⟩ := hS'; go_simp; try rfl)
        simp only [Act.put, actP]
        refine wpHJ_take (v := ?vr12_30) 30 hFa rfl (by kernel_rfl) (fun _ _ _ h => h.elim) (Or.inl ⟨by first | (simp [Region.wanted, yielded]; done) | (simp [Region.wanted, yielded, undef]; done), ?yr12_30⟩) hSn ?rr12_30
        case yr12_30 => (intro w' hS'; obtain ⟨s0, s1, s2, s3⟩ := hS'; go_simp; try rfl)
        simp only [Act.put, actP]
        refine wpHJ_take (v := ?vr12_31) 31 hFa rfl (by kernel_rfl) (fun _ _ _ h => h.elim) (Or.inl ⟨by first | (simp [Region.wanted, yielded]; done) | (simp [Region.wanted, yielded, undef]; done), ?yr12_31⟩) hSn ?rr12_31
        case yr12_31 => (intro w' hS'; obtain ⟨s0, s1, s2, s3⟩ := hS'; go_simp; try rfl)
        simp only [Act.put, actP]
        refine wpHJ_take (v := ?vr12_32) 32 hFa rfl (by kernel_rfl) (fun _ _ _ h => h.elim) (Or.inl ⟨by first | (simp [Region.wanted, yielded]; done) | (simp [Region.wanted, yielded, undef]; done), ?yr12_32⟩) hSn ?rr12_32
        case yr12_32 => (intro w' hS'; obtain ⟨s0, s1, s2, s3⟩ := hS'; go_simp; try rfl)
        simp only [Act.put, actP]
        refine wpHJ_only 33 (by kernel_rfl) rfl ?_
        intro K hK
        go_simp
        refine hK _ _ (.inr (.inr hSn)) ?_
        clear hK K
        refine wpHJ_done (by kernel_rfl) ?_ _
        simp only [onlyN, Exit.then]
        clear hFa
        go_wp2_with fail
        go_meet
        case rel => exact ⟨by rw [HD.out, HN.out]; first | rfl | (simp [fieldB, HDV.out, HNV.out]; done) | (simp [fieldB, HDV.out, HNV.out, HNE.out]; done) | (simp [fieldB, HDV.out, HNV.out, HDE.out]; done) | (simp [fieldB, HDV.out, HNV.out, named_ne HNV.out]; done) | (simp [fieldB, HDV.out, HNV.out, named_ne HDV.out]; done), HB1N.out, HBN.out⟩
    ·have HDE := hid hde
     have d1 : (d == []) = false := beq_eq_false_iff_ne.2 hde
     have d2 : d.isEmpty = false := by cases d with | nil => exact absurd rfl hde | cons a r => rfl
     have d3 : (d != []) = true := by rw [bne, d1]; rfl
     have HNV := hid (rfl : namedB n = namedB n)
     have hFa : ∀ f, Fence.wide.fn f := fun _ => trivial
     refine (wpIn_wide (n := 9)).1 ?_
     refine wpIn_onlyN ?_
     refine wpIn_region_HJ (fun W => W.cell? ⟨w.heap.size, 2, none⟩ = some (.string ⟨d.toArray⟩) ∧ W.cell? ⟨w.heap.size, 3, none⟩ = some (.string ⟨n.toArray⟩) ∧ W.cell? ⟨w.heap.size + 1, 0, none⟩ = some (.bool false) ∧ W.cell? ⟨w.heap.size + 1, 1, none⟩ = some (.bool fn)) 34 (by kernel_rfl) ?_
     simp only [List.size_toArray, List.length_cons, List.length_nil, Nat.reduceAdd]
     refine wpHJ_take (v := ?vr13_0) 0 hFa rfl (by kernel_rfl) (fun _ _ _ h => h.elim) (Or.inl ⟨by rfl, ?yr13_0⟩) hS ?rr13_0
     case yr13_0 => (intro w' hS'; obtain ⟨s0, s1, s2, s3⟩ := hS'; go_simp; try rfl)
     simp only [Act.put, actP]
     refine wpHJ_take (v := ?vr13_1) 1 hFa rfl (by kernel_rfl) (fun _ _ _ h => h.elim) (Or.inl ⟨by rfl, ?yr13_1⟩) hS ?rr13_1
     case yr13_1 => (intro w' hS'; obtain ⟨s0, s1, s2, s3⟩ := hS'; go_simp; try rfl)
     simp only [Act.put, actP]
     refine wpHJ_take (v := ?vr13_2) 2 hFa rfl (by kernel_rfl) (fun _ _ _ h => h.elim) (Or.inl ⟨by rfl, ?yr13_2⟩) hS ?rr13_2
     case yr13_2 => (intro w' hS'; obtain ⟨s0, s1, s2, s3⟩ := hS'; go_simp; try rfl)
     simp only [Act.put, actP]
     refine wpHJ_take (v := ?vr13_3) 3 hFa rfl (by kernel_rfl) (fun _ _ _ h => h.elim) (Or.inl ⟨by rfl, ?yr13_3⟩) hS ?rr13_3
     case yr13_3 => (intro w' hS'; obtain ⟨s0, s1, s2, s3⟩ := hS'; go_simp; try rfl)
     simp only [Act.put, actP]
     refine wpHJ_only 4 (by kernel_rfl) rfl ?_
     intro K hK
     go_simp
     (with_reducible refine (callsIn_wide.2 (HND.out _ (HE.out.step ((HBW.out.drew).mono HE.out.size)).e)).mono ?_)
     rintro e wd ⟨rfl, hbd⟩
     rw [HDV.out]
     have hSd : (fun W => W.cell? ⟨w.heap.size, 2, none⟩ = some (.string ⟨d.toArray⟩) ∧ W.cell? ⟨w.heap.size, 3, none⟩ = some (.string ⟨n.toArray⟩) ∧ W.cell? ⟨w.heap.size + 1, 0, none⟩ = some (.bool false) ∧ W.cell? ⟨w.heap.size + 1, 1, none⟩ = some (.bool fn)) wd := ⟨(hbd.cell (p := ⟨_, _, none⟩) (cell_size hS.1)).trans hS.1, (hbd.cell (p := ⟨_, _, none⟩) (cell_size hS.2.1)).trans hS.2.1, (hbd.cell (p := ⟨_, _, none⟩) (cell_size hS.2.2.1)).trans hS.2.2.1, (hbd.cell (p := ⟨_, _, none⟩) (cell_size hS.2.2.2)).trans hS.2.2.2⟩
     have HBD := hid (HBW.out.drew.trans (hbd.mono HBW.out.size))
     have HB1D := hid ((show BxL 26 w.heap.size (inL x (.slice pa x.args.length ca)) wc.drew from HB1.out).bel hbd)
     clear hbd hS
     refine hK _ _ (.inr (.inr hSd)) ?_
     clear hK K
     refine wpHJ_take (v := ?vr13_5) 5 hFa rfl (by kernel_rfl) (fun _ _ _ h => h.elim) (Or.inl ⟨by rfl, ?yr13_5⟩) hSd ?rr13_5
     case yr13_5 => (intro w' hS'; obtain ⟨s0, s1, s2, s3⟩ := hS'; go_simp; try rfl)
     simp only [Act.put, actP]
     refine wpHJ_take (v := ?vr13_6) 6 hFa rfl (by kernel_rfl) (fun _ _ _ h => h.elim) (Or.inl ⟨by rfl, ?yr13_6⟩) hSd ?rr13_6
     case yr13_6 => (intro w' hS'; obtain ⟨s0, s1, s2, s3⟩ := hS'; go_simp; try rfl)
     simp only [Act.put, actP]
     refine wpHJ_take (v := ?vr13_7) 7 hFa rfl (by kernel_rfl) (fun _ _ _ h => h.elim) (Or.inl ⟨by first | (simp [Region.wanted, yielded]; done) | (simp [Region.wanted, yielded, undef]; done), ?yr13_7⟩) hSd ?rr13_7
     case yr13_7 => (intro w' hS'; obtain ⟨s0, s1, s2, s3⟩ := hS'; go_simp; try rfl)
     simp only [Act.put, actP]
     refine wpHJ_take (v := ?vr13_8) 8 hFa rfl (by kernel_rfl) (fun _ _ _ h => h.elim) (Or.inl ⟨by first | (simp [Region.wanted, yielded]; done) | (simp [Region.wanted, yielded, undef]; done), ?yr13_8⟩) hSd ?rr13_8
     case yr13_8 => (intro w' hS'; obtain ⟨s0, s1, s2, s3⟩ := hS'; go_simp; try rfl)
     simp only [Act.put, actP]
     refine wpHJ_take (v := ?vr13_9) 9 hFa rfl (by kernel_rfl) (fun _ _ _ h => h.elim) (Or.inl ⟨by first | (simp [Region.wanted, yielded]; done) | (simp [Region.wanted, yielded, undef]; done), ?yr13_9⟩) hSd ?rr13_9
     case yr13_9 => (intro w' hS'; obtain ⟨s0, s1, s2, s3⟩ := hS'; go_simp; try rfl)
     simp only [Act.put, actP]
     refine wpHJ_take (v := ?vr13_10) 10 hFa rfl (by kernel_rfl) (fun _ _ _ h => h.elim) (Or.inl ⟨by first | (simp [Region.wanted, yielded]; done) | (simp [Region.wanted, yielded, undef]; done), ?yr13_10⟩) hSd ?rr13_10
     case yr13_10 => (intro w' hS'; obtain ⟨s0, s1, s2, s3⟩ := hS'; go_simp; try rfl)
     simp only [Act.put, actP]
     refine wpHJ_take (v := ?vr13_11) 11 hFa rfl (by kernel_rfl) (fun _ _ _ h => h.elim) (Or.inl ⟨by first | (simp [Region.wanted, yielded]; done) | (simp [Region.wanted, yielded, undef]; done), ?yr13_11⟩) hSd ?rr13_11
     case yr13_11 => (intro w' hS'; obtain ⟨s0, s1, s2, s3⟩ := hS'; go_simp; try rfl)
     simp only [Act.put, actP]
     refine wpHJ_take (v := ?vr13_12) 12 hFa rfl (by kernel_rfl) (fun _ _ _ h => h.elim) (Or.inl ⟨by first | (simp [Region.wanted, yielded]; done) | (simp [Region.wanted, yielded, undef]; done), ?yr13_12⟩) hSd ?rr13_12
     case yr13_12 => (intro w' hS'; obtain ⟨s0, s1, s2, s3⟩ := hS'; go_simp; try rfl)
     simp only [Act.put, actP]
     refine wpHJ_take (v := ?vr13_13) 13 hFa rfl (by kernel_rfl) (fun _ _ _ h => h.elim) (Or.inl ⟨by first | (simp [Region.wanted, yielded]; done) | (simp [Region.wanted, yielded, undef]; done), ?yr13_13⟩) hSd ?rr13_13
     case yr13_13 => (intro w' hS'; obtain ⟨s0, s1, s2, s3⟩ := hS'; go_simp; try rfl)
     simp only [Act.put, actP]
     refine wpHJ_take (v := ?vr13_14) 14 hFa rfl (by kernel_rfl) (fun _ _ _ h => h.elim) (Or.inl ⟨by first | (simp [Region.wanted, yielded]; done) | (simp [Region.wanted, yielded, undef]; done), ?yr13_14⟩) hSd ?rr13_14
     case yr13_14 => (intro w' hS'; obtain ⟨s0, s1, s2, s3⟩ := hS'; go_simp; try rfl)
     simp only [Act.put, actP]
     refine wpHJ_take (v := ?vr13_15) 15 hFa rfl (by kernel_rfl) (fun _ _ _ h => h.elim) (Or.inl ⟨by rfl, ?yr13_15⟩) hSd ?rr13_15
     case yr13_15 => (intro w' hS'; obtain ⟨s0, s1, s2, s3⟩ := hS'; go_simp; try rfl)
     simp only [Act.put, actP]
     refine wpHJ_take (v := ?vr13_16) 16 hFa rfl (by kernel_rfl) (fun _ _ _ h => h.elim) (Or.inl ⟨by rfl, ?yr13_16⟩) hSd ?rr13_16
     case yr13_16 => (intro w' hS'; obtain ⟨s0, s1, s2, s3⟩ := hS'; go_simp; try rfl)
     simp only [Act.put, actP]
     refine wpHJ_take (v := undef) 17 hFa rfl (by kernel_rfl) (fun _ _ _ h => h.elim) (Or.inr ⟨by first | (simp [Region.wanted, yielded]; done) | (simp [Region.wanted, yielded, undef]; done), rfl⟩) hSd ?rr13_17
     simp only [Act.put, actP]
     refine wpHJ_take (v := undef) 18 hFa rfl (by kernel_rfl) (fun _ _ _ h => h.elim) (Or.inr ⟨by first | (simp [Region.wanted, yielded]; done) | (simp [Region.wanted, yielded, undef]; done), rfl⟩) hSd ?rr13_18
     simp only [Act.put, actP]
     refine wpHJ_take (v := undef) 19 hFa rfl (by kernel_rfl) (fun _ _ _ h => h.elim) (Or.inr ⟨by first | (simp [Region.wanted, yielded]; done) | (simp [Region.wanted, yielded, undef]; done), rfl⟩) hSd ?rr13_19
     simp only [Act.put, actP]
     refine wpHJ_take (v := undef) 20 hFa rfl (by kernel_rfl) (fun _ _ _ h => h.elim) (Or.inr ⟨by first | (simp [Region.wanted, yielded]; done) | (simp [Region.wanted, yielded, undef]; done), rfl⟩) hSd ?rr13_20
     simp only [Act.put, actP]
     refine wpHJ_only 21 (by kernel_rfl) rfl ?_
     intro K hK
     rw [if_neg (by first | (simp [Region.wanted, yielded]; done) | (simp [Region.wanted, yielded, undef]; done))]
     go_simp
     refine hK _ _ (.inr (.inr hSd)) ?_
     clear hK K
     refine wpHJ_take (v := undef) 22 hFa rfl (by kernel_rfl) (fun _ _ _ h => h.elim) (Or.inr ⟨by first | (simp [Region.wanted, yielded]; done) | (simp [Region.wanted, yielded, undef]; done), rfl⟩) hSd ?rr13_22
     simp only [Act.put, actP]
     refine wpHJ_take (v := ?vr13_23) 23 hFa rfl (by kernel_rfl) (fun _ _ _ h => h.elim) (Or.inl ⟨by rfl, ?yr13_23⟩) hSd ?rr13_23
     case yr13_23 => (intro w' hS'; obtain ⟨s0, s1, s2, s3⟩ := hS'; go_simp; try rfl)
     simp only [Act.put, actP]
     refine wpHJ_take (v := ?vr13_24) 24 hFa rfl (by kernel_rfl) (fun _ _ _ h => h.elim) (Or.inl ⟨by rfl, ?yr13_24⟩) hSd ?rr13_24
     case yr13_24 => (intro w' hS'; obtain ⟨s0, s1, s2, s3⟩ := hS'; go_simp; try rfl)
     simp only [Act.put, actP]
     refine wpHJ_take (v := undef) 25 hFa rfl (by kernel_rfl) (fun _ _ _ h => h.elim) (Or.inr ⟨by first | (simp [Region.wanted, yielded]; done) | (simp [Region.wanted, yielded, undef]; done), rfl⟩) hSd ?rr13_25
     simp only [Act.put, actP]
     refine wpHJ_take (v := undef) 26 hFa rfl (by kernel_rfl) (fun _ _ _ h => h.elim) (Or.inr ⟨by first | (simp [Region.wanted, yielded]; done) | (simp [Region.wanted, yielded, undef]; done), rfl⟩) hSd ?rr13_26
     simp only [Act.put, actP]
     refine wpHJ_take (v := undef) 27 hFa rfl (by kernel_rfl) (fun _ _ _ h => h.elim) (Or.inr ⟨by first | (simp [Region.wanted, yielded]; done) | (simp [Region.wanted, yielded, undef]; done), rfl⟩) hSd ?rr13_27
     simp only [Act.put, actP]
     refine wpHJ_take (v := undef) 28 hFa rfl (by kernel_rfl) (fun _ _ _ h => h.elim) (Or.inr ⟨by first | (simp [Region.wanted, yielded]; done) | (simp [Region.wanted, yielded, undef]; done), rfl⟩) hSd ?rr13_28
     simp only [Act.put, actP]
     refine wpHJ_take (v := undef) 29 hFa rfl (by kernel_rfl) (fun _ _ _ h => h.elim) (Or.inr ⟨by first | (simp [Region.wanted, yielded]; done) | (simp [Region.wanted, yielded, undef]; done), rfl⟩) hSd ?rr13_29
     simp only [Act.put, actP]
     refine wpHJ_take (v := undef) 30 hFa rfl (by kernel_rfl) (fun _ _ _ h => h.elim) (Or.inr ⟨by first | (simp [Region.wanted, yielded]; done) | (simp [Region.wanted, yielded, undef]; done), rfl⟩) hSd ?rr13_30
     simp only [Act.put, actP]
     refine wpHJ_take (v := undef) 31 hFa rfl (by kernel_rfl) (fun _ _ _ h => h.elim) (Or.inr ⟨by first | (simp [Region.wanted, yielded]; done) | (simp [Region.wanted, yielded, undef]; done), rfl⟩) hSd ?rr13_31
     simp only [Act.put, actP]
     refine wpHJ_take (v := undef) 32 hFa rfl (by kernel_rfl) (fun _ _ _ h => h.elim) (Or.inr ⟨by first | (simp [Region.wanted, yielded]; done) | (simp [Region.wanted, yielded, undef]; done), rfl⟩) hSd ?rr13_32
     simp only [Act.put, actP]
     refine wpHJ_only 33 (by kernel_rfl) rfl ?_
     intro K hK
     go_simp
     refine hK _ _ (.inr (.inr hSd)) ?_
     clear hK K
     refine wpHJ_done (by kernel_rfl) ?_ _
     simp only [onlyN, Exit.then]
     clear hFa
     go_wp2_with fail
     go_meet
     case rel => exact ⟨by rw [HD.out, HN.out]; first | rfl | (simp [fieldB, HDV.out, HNV.out]; done) | (simp [fieldB, HDV.out, HNV.out, HNE.out]; done) | (simp [fieldB, HDV.out, HNV.out, HDE.out]; done) | (simp [fieldB, HDV.out, HNV.out, named_ne HNV.out]; done) | (simp [fieldB, HDV.out, HNV.out, named_ne HDV.out]; done), HB1D.out, HBD.out⟩
 case rest =>
 obtain ⟨rfl, hb1', hbw'⟩ := hcut
 clear HB1 HB3 HBW
 have HB1 := hid hb1'; have HBW := hid hbw'
 have hargs : wc.cell? ⟨w.heap.size, 4, none⟩ = some (.slice pa x.args.length ca) := HB1.out.at 4 rfl
 clear hb1' hbw'
 have HMF2 := hid (show formB x = ((fieldB fd x.dst && fieldB fn x.nm) && ((decide (wantM x < 0) || decide ((x.args.length : Int) = wantM x)) && decide (x.args.length ≤ 32)) && x.args.all argB) from by rw [HMF.out, HOKT.out, Bool.true_and])
 obtain ⟨fb, hfb⟩ : ∃ b, (fieldB fd x.dst && fieldB fn x.nm) = b := ⟨_, rfl⟩
 rw [hfb] at HMF2 ⊢
 clear hfb HMF HOKT HOK HWM
 cases fb with
 | false =>
  have HM := hid (show formB x = false from by rw [HMF2.out]; rfl)
  simp only [Bool.not_false]
  go_wp2
  go_ret
  exact ⟨by rw [HM.out]; rfl, HBW.out⟩
 | true =>
 simp only [Bool.not_true]
 obtain ⟨want, hwant⟩ : ∃ z, wantM x = z := ⟨_, rfl⟩
 obtain ⟨L, hL⟩ : ∃ z, x.args.length = z := ⟨_, rfl⟩
 rw [hwant, hL] at HMF2
 rw [hL] at hargs HA HB1
 rw [hwant]
 simp only [hL]
 go_upto_region 13 with fail
 go_cut [85] (fun s85 wx => s85 = .bool (!((decide (want < 0) || decide ((L : Int) = want)) && decide (L ≤ 32))) ∧ wx = wc)
 case first =>
  by_cases h1 : want < 0
  ·have t1 : decide (0 ≤ want) = false := by simp; omega
   have G1 := hid (decide_eq_true h1)
   by_cases h2 : L ≤ 32
   ·have t2 : decide (32 < (L : Int)) = false := by simp; omega
    have G2 := hid (decide_eq_true h2)
    clear h1 h2
    go_wp2_with fail
    go_meet
    case rel => exact ⟨by rw [G1.out, G2.out]; rfl, rfl⟩
   ·have t2 : decide (32 < (L : Int)) = true := by simp; omega
    have G2 := hid (decide_eq_false h2)
    clear h1 h2
    go_wp2_with fail
    go_meet
    case rel => exact ⟨by rw [G1.out, G2.out]; rfl, rfl⟩
  ·have t1 : decide (0 ≤ want) = true := by simp; omega
   have G1 := hid (decide_eq_false h1)
   clear h1
   by_cases h3 : (L : Int) = want
   ·have t3 : ((L : Int) != want) = false := by simp [h3]
    have G3 := hid (decide_eq_true h3)
    clear h3
    by_cases h2 : L ≤ 32
    ·have t2 : decide (32 < (L : Int)) = false := by simp; omega
     have G2 := hid (decide_eq_true h2)
     clear h2
     go_wp2_with fail
     go_meet
     case rel => exact ⟨by rw [G1.out, G2.out, G3.out]; rfl, rfl⟩
    ·have t2 : decide (32 < (L : Int)) = true := by simp; omega
     have G2 := hid (decide_eq_false h2)
     clear h2
     go_wp2_with fail
     go_meet
     case rel => exact ⟨by rw [G1.out, G2.out, G3.out]; rfl, rfl⟩
   ·have t3 : ((L : Int) != want) = true := by simp [h3]
    have G3 := hid (decide_eq_false h3)
    clear h3
    go_wp2_with fail
    go_meet
    case rel => exact ⟨by rw [G1.out, G3.out]; rfl, rfl⟩
 case rest =>
 obtain ⟨rfl, rfl⟩ := hcut
 obtain ⟨lb, hlb⟩ : ∃ b, ((decide (want < 0) || decide ((L : Int) = want)) && decide (L ≤ 32)) = b := ⟨_, rfl⟩
 rw [hlb] at HMF2 ⊢
 clear hlb
 cases lb with
 | false =>
  have HM := hid (show formB x = false from by rw [HMF2.out]; rfl)
  simp only [Bool.not_false]
  go_wp2
  go_ret
  exact ⟨by rw [HM.out]; rfl, HBW.out⟩
 | true =>
 simp only [Bool.not_true]
 have HLB := hid (show L ≤ 140737488355328 from by have h1 := HA.out.len; rw [← hL]; exact h1)
 have HL := hid hL
 clear hL
 have HM := hid (show formB x = x.args.all argB from by rw [HMF2.out]; rfl)
 clear HMF2
 go_wp2_with fail
 clear hargs
 go_loopw [2, 89] (fun v2 iv wr => ∃ k : Nat, k ≤ L ∧ iv = .int .i64 (k : Int) ∧ (x.args.take k).all argB = true ∧ Below w.heap.size w wr) (fun _ iv _ => L - (intOf iv).toNat)
 case atStart => exact ⟨0, Nat.zero_le _, rfl, rfl, HBW.out⟩
 case round =>
  obtain ⟨k, hk, rfl, hall, hbr⟩ := hrel
  by_cases hlt : k < L
  ·have g2 : decide ((k : Int) < (L : Int)) = true := by simp; omega
   have hl0 : 0 < x.args.length := by rw [HL.out]; omega
   have hkl : k < x.args.length := by rw [HL.out]; exact hlt
   obtain ⟨b, off, rfl, hR, hcells⟩ := ag_at HA.out hl0
   obtain ⟨c0, c1⟩ := hcells k hkl
   have hsn : (x.args.take (k + 1)).all argB = ((x.args.take k).all argB && argB x.args[k]) := by
    rw [List.take_succ_eq_append_getElem hkl, List.all_append]; simp
   have hno : argB x.args[k] = false → x.args.all argB = false := fun h => by
    rw [List.all_eq_false]; exact ⟨_, List.getElem_mem hkl, by rw [h]; decide⟩
   rw [hall, Bool.true_and] at hsn
   have HSN := hid hsn; have HNO := hid hno
   have d0 : wr.cell? ⟨b, off + k * 2, none⟩ = some (.string ⟨(x.args[k]).nm.toArray⟩) := (hbr.cell (p := ⟨_, _, none⟩) hR).trans c0
   have d1 : wr.cell? ⟨b, off + k * 2 + 1, none⟩ = some (.int .u64 ((x.args[k]).num : Int)) := (hbr.cell (p := ⟨_, _, none⟩) hR).trans c1
   have HBR := hid hbr
   have hEr := (HE.out.step (hbr.mono HE.out.size))
   have HER := hid hEr
   have hbl : ¬ b = wr.heap.size := by have := hbr.size; omega
   have HLT := hid hlt
   clear hsn hno hall hcells c0 c1 hbr hl0 hEr hR
   obtain ⟨a, hag⟩ : ∃ a, x.args[k] = a := ⟨_, rfl⟩
   rw [hag] at d0 d1 HSN HNO
   clear hag hkl
   obtain ⟨s, n⟩ := a
   simp only at d0 d1
   by_cases hs : s = []
   ·subst hs
    have HNX := hid (show (x.args.take (k + 1)).all argB = true from HSN.out.trans (by simp [argB]))
    clear hlt
    go_wp2_with fail
    go_roundw
    case rel => exact ⟨k + 1, HLT.out, by rw [wrap_next HLT.out HLB.out], HNX.out, by first | exact HBR.out.alloc HBR.out.size _ | exact HBR.out⟩
    case measure => exact meas_next HLT.out HLB.out
   ·have e1 : (s == []) = false := beq_eq_false_iff_ne.2 hs
    have e2 : s.isEmpty = false := by cases s with | nil => exact absurd rfl hs | cons a r => rfl
    have e3 : (s != []) = true := by rw [bne, e1]; rfl
    have HAB := hid (show argB ⟨s, n⟩ = (namedB s && decide (n = 0)) from by simp [argB, hs])
    have HNM := hid (fun W hW => named_any s W hW)
    clear hs
    cases hnb : namedB s with
    | false =>
     rw [hnb] at HAB
     have HF := hid (HNO.out (by rw [HAB.out]; rfl))
     have HNB := hid hnb
     clear hlt hnb
     go_wp2_with (go_at_call 83; with_reducible refine (HNM.out _ (HER.out.step ((Below.refl _ _).alloc HER.out.size _)).e).mono ?_; rw [HNB.out]; rintro e wx ⟨rfl, hbx⟩)
     go_ret
     exact ⟨by rw [HM.out, HF.out]; rfl, (HBR.out.alloc HBR.out.size _).trans (hbx.mono (by rw [World.size_alloc]; have := HBR.out.size; omega))⟩
    | true =>
     rw [hnb] at HAB
     have HNB := hid hnb
     clear hnb
     by_cases hn0 : n = 0
     ·subst hn0
      have HNX := hid (show (x.args.take (k + 1)).all argB = true from HSN.out.trans (by rw [HAB.out]; rfl))
      clear hlt
      go_wp2_with (go_at_call 83; with_reducible refine (HNM.out _ (HER.out.step ((Below.refl _ _).alloc HER.out.size _)).e).mono ?_; rw [HNB.out]; rintro e wx ⟨rfl, hbx⟩; have q0 := two_after hbx; have HBX := hid ((HBR.out.alloc HBR.out.size _).trans (hbx.mono (by rw [World.size_alloc]; have := HBR.out.size; omega))); clear hbx)
      go_roundw
      case rel => exact ⟨k + 1, HLT.out, by rw [wrap_next HLT.out HLB.out], HNX.out, HBX.out⟩
      case measure => exact meas_next HLT.out HLB.out
     ·have t5 : ((n : Int) != 0) = true := by simp; omega
      have HF := hid (HNO.out (by rw [HAB.out, decide_eq_false hn0]; rfl))
      clear hlt hn0
      go_wp2_with (go_at_call 83; with_reducible refine (HNM.out _ (HER.out.step ((Below.refl _ _).alloc HER.out.size _)).e).mono ?_; rw [HNB.out]; rintro e wx ⟨rfl, hbx⟩; have q0 := two_after hbx; have HBX := hid ((HBR.out.alloc HBR.out.size _).trans (hbx.mono (by rw [World.size_alloc]; have := HBR.out.size; omega))); clear hbx)
      go_ret
      exact ⟨by rw [HM.out, HF.out]; rfl, HBX.out⟩
  ·obtain rfl : k = L := by omega
   have g2 : decide ((k : Int) < (k : Int)) = false := by simp
   have HALL := hid (show x.args.all argB = true from by rw [← hall, List.take_of_length_le (by rw [HL.out]; exact Nat.le_refl _)])
   have HBR := hid hbr
   clear hall hbr hlt
   go_wp2_with fail
   go_ret
   exact ⟨by rw [HM.out, HALL.out]; rfl, HBR.out⟩

end Go.Proofs.YtoofbgoeipijcaaDoor
