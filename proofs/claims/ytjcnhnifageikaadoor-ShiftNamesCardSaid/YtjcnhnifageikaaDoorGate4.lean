/-
  The walk of package gate's write.
-/
import Derived.Test.YtjcnhnifageikaaDoorGate3
namespace Go.Proofs.YtjcnhnifageikaaDoor
set_option linter.unusedSimpArgs false
set_option linter.unusedVariables false
open Go.RowKit

theorem info_int : (Tryd.prog.info? 3).map (fun i => (i.zero, i.size, i.bytes)) = some (some (.int .i64 0), 1, 8) := by kernel_rfl
theorem info_ints : (Tryd.prog.info? 23).map (fun i => (i.zero, i.size, i.bytes)) = some (some (.slice none 0 0), 1, 24) := by kernel_rfl

theorem tbl_pick {R : Nat → Prop} {w : World} {v0 v1 v2 : Value} (k : Nat) (hk : k ≤ 2) (g0 : LL R w v0 (gateTbl 0)) (g1 : LL R w v1 (gateTbl 1)) (g2 : LL R w v2 (gateTbl 2)) :
    ∃ tv, (∀ W, (Instr.index 116 (.agg #[v0, v1, v2]) (.int .i64 (k : Int))).run Tryd.prog W = .ok tv W) ∧ LL R w tv (gateTbl k) := by
  have h : k = 0 ∨ k = 1 ∨ k = 2 := by omega
  rcases h with rfl | rfl | rfl
  · exact ⟨v0, fun _ => by kernel_rfl, g0⟩
  · exact ⟨v1, fun _ => by kernel_rfl, g1⟩
  · exact ⟨v2, fun _ => by kernel_rfl, g2⟩

theorem LL.op {R : Nat → Prop} {w : World} {v : Value} {ls : List (List Int)} (h : LL R w v ls) :
    ∃ p c vs, v = .slice p ls.length c ∧ ls.length ≤ c ∧ c ≤ maxLen ∧ ls.length ≤ 140737488355328 ∧ RowR R w p vs ∧ vs.length = ls.length ∧ ∀ i (h : i < ls.length) (h' : i < vs.length), Ints R w vs[i] ls[i] := by
  obtain ⟨vs, ⟨p, c, e, h1, h2, h3, hr⟩, hl, hi⟩ := h
  rw [hl] at e h1 h3
  exact ⟨p, c, vs, e, h1, h2, h3, hr, hl, hi⟩

set_option maxRecDepth 100000 in
set_option maxHeartbeats 1600000 in
theorem write_full (bb k : Nat) (hk : k ≤ 2) (F : Form) (args : List Int) (p : Option Addr) (n cap : Nat) (w : World) (hB : IsB w bb F)
    (hfull : F.vars = 1048576 ∨ 1048576 < F.cls.length + (gateTbl k).length) :
    Calls Tryd.prog 50 #[.pointer (some ⟨bb, 0, none⟩), .int .i64 (k : Int), .slice p n cap] w fun e w' =>
      e = .returned (.tuple #[.int .i64 0, .int .i64 5]) ∧ IsB w' bb F ∧ FrB bb w w' := by
  have hlt := hB.lt
  have hpos := hB.pos
  have hle := hB.vars
  have hlc := hB.cls
  go_enter Tryd.func50, Tryd.ntmps50
  go_wp2_with fail
  refine (clauses_any _).mono ?_
  rintro e w1 ⟨v0, v1, v2, rfl, g0, g1, g2, hb1⟩
  obtain ⟨tv, hidx, hT⟩ := tbl_pick k hk g0 g1 g2
  have hB1 := hB.below hb1
  have hfr1 : FrB bb w w1 := FrB.of_below hB hb1
  obtain ⟨pt, ct, vs, rfl, ht1, ht2, ht3, hrt, hvl, hvi⟩ := hT.op
  obtain ⟨pc, cc, h0, h1, f0, f1⟩ := hB1.cells
  clear g0 g1 g2 hT hvl hvi hrt
  by_cases hv : F.vars = 1048576
  · have hd : ((F.vars : Int) == 1048576) = true := by simp; omega
    have HV := hid hv; clear hv hfull
    go_wp2
    go_ret2
    exact ⟨rfl, hB1, hfr1⟩
  · have hd : ((F.vars : Int) == 1048576) = false := by simp; omega
    have hgt : (1048576 : Int) < (F.cls.length : Int) + ((gateTbl k).length : Int) := by omega
    have HV := hid hv; clear hv hfull
    go_wp2
    go_ret2
    exact ⟨rfl, hB1, hfr1⟩

/-- A clause is appended: what is left of the builder. -/
theorem IsB.push {w w4 : World} {bb : Nat} {F : Form} {v v' vc : Value} {vs : List Value} {cl : List Int} (hB : IsB w bb F)
    (hh : w.heap[bb]? = some (.cells #[.int .i64 (F.vars : Int), v] 83 (0, 0))) (ho : w.ownsRow 0 23 1 v vs.length vs) (hne : v.ownBlock ≠ some bb)
    (hl : vs.length = F.cls.length) (hc : ∀ i (h : i < F.cls.length) (h' : i < vs.length), Ints (Rd bb w) w vs[i] F.cls[i]) (hr : ∀ u ∈ vs, ∀ k, u.ownBlock = some k → Rd bb w k)
    (hvc : Ints (Away bb w) w vc cl) (hvr : ∀ k, vc.ownBlock = some k → Away bb w k) (hroom : F.cls.length + 1 ≤ 1048576)
    (hg : (w.alloc (.cells #[vc] 23)).grownBy w4 v.ownBlock) (hown : w4.ownsRow 0 23 1 v' (vs.length + 1) (vs ++ [vc]))
    (hat : v'.ownBlock = v.ownBlock ∨ v'.ownBlock = some (w.alloc (.cells #[vc] 23)).heap.size) :
    IsB (w4.setCell ⟨bb, 1, none⟩ v') bb ⟨F.vars, F.cls ++ [cl]⟩ ∧ Fr (fun k => Away bb w k ∧ vc.ownBlock ≠ some k) (Away bb (w4.setCell ⟨bb, 1, none⟩ v')) w (w4.setCell ⟨bb, 1, none⟩ v') := by
  have hlt := hB.lt
  rw [World.size_alloc] at hat
  have hbl : bblk w bb = v.ownBlock := bblk_of hh
  have hvlt : ∀ k, v.ownBlock = some k → k < w.heap.size := fun k hk => (ho.lt k hk).2
  have hne' : v'.ownBlock ≠ some bb := by
    rcases hat with h | h
    · rw [h]; exact hne
    · rw [h]; intro e; injection e with e; omega
  have hsz : w.heap.size + 1 ≤ w4.heap.size := by have := hg.size; simpa using this
  have hold : ∀ k, k < w.heap.size → v.ownBlock ≠ some k → w4.heap[k]? = w.heap[k]? := fun k hk hk' =>
    (hg.block k (by simp; omega) (fun e => hk' e.symm)).trans (by rw [heap_al, if_neg (by omega)])
  have h4 : w4.heap[bb]? = some (.cells #[.int .i64 (F.vars : Int), v] 83 (0, 0)) := (hold bb hlt hne).trans hh
  have h5 : (w4.setCell ⟨bb, 1, none⟩ v').heap[bb]? = some (.cells #[.int .i64 (F.vars : Int), v'] 83 (0, 0)) := by
    simp [World.setCell, Array.getElem?_modify, h4]
  have h6 : (vs ++ [vc]).length = vs.length + 1 := by simp
  have ho5 : (w4.setCell ⟨bb, 1, none⟩ v').ownsRow 0 23 1 v' (vs ++ [vc]).length (vs ++ [vc]) := by
    rw [h6]
    exact hown.kept (row := some bb) ⟨rfl, rfl, rfl, by simp, fun k hk hne'' => Below.heap_setCell _ _ _ _ (fun e => hne'' (by rw [e]))⟩ (.inr hne')
  have hRd : ∀ k, Rd bb w k → Rd bb (w4.setCell ⟨bb, 1, none⟩ v') k ∧ (w4.setCell ⟨bb, 1, none⟩ v').heap[k]? = w.heap[k]? := fun k hk => by
    obtain ⟨k1, k2, k3⟩ := hk
    rw [hbl] at k3
    refine ⟨⟨by simp; omega, k2, ?_⟩, (Below.heap_setCell _ _ _ _ k2).trans (hold k k1 k3)⟩
    rw [bblk_of h5]
    rcases hat with h | h
    · rw [h]; exact k3
    · rw [h]; intro e; injection e with e; omega
  have hfr : Fr (fun k => Away bb w k ∧ vc.ownBlock ≠ some k) (Away bb (w4.setCell ⟨bb, 1, none⟩ v')) w (w4.setCell ⟨bb, 1, none⟩ v') := by
    refine ⟨hg.os, hg.tape, hg.output, by simp; omega, fun k hk => ⟨⟨(hRd k hk.1.1).1, fun e => ?_⟩, (hRd k hk.1.1).2⟩⟩
    obtain ⟨u, hu, hk'⟩ := (bcl_of h5 ho5).1 e
    rcases List.mem_append.1 hu with hu | hu
    · exact hk.1.2 ((bcl_of hh ho).2 ⟨u, hu, hk'⟩)
    · simp at hu; subst hu; exact hk.2 hk'
  refine ⟨⟨⟨v', vs ++ [vc], h5, ho5, hne', by simp [hl], fun i hi hi' => ?_, fun u hu k hk => ?_⟩, hB.pos, hB.vars, by simp; omega⟩, hfr⟩
  · by_cases hi2 : i < F.cls.length
    · have e1 : (vs ++ [vc])[i] = vs[i]'(by omega) := List.getElem_append_left (by omega)
      have e2 : (F.cls ++ [cl])[i] = F.cls[i] := List.getElem_append_left hi2
      rw [e1]
      show Ints _ _ _ (F.cls ++ [cl])[i]
      rw [e2]
      exact (hc i hi2 (by omega)).keep hRd
    · have hi3 : i = F.cls.length := by simp at hi; omega
      subst hi3
      have e1 : (vs ++ [vc])[F.cls.length] = vc := by simp [← hl]
      have e2 : (F.cls ++ [cl])[F.cls.length] = cl := by simp
      rw [e1]
      show Ints _ _ _ (F.cls ++ [cl])[F.cls.length]
      rw [e2]
      exact hvc.keep (fun k hk => hRd k hk.1)
  · rcases List.mem_append.1 hu with hu | hu
    · exact (hRd k (hr u hu k hk)).1
    · simp at hu; subst hu; exact (hRd k (hvr k hk).1).1

/-- Behind the append the builder's second cell is as it was. -/
theorem IsB.push0 {w w4 : World} {bb : Nat} {F : Form} {v : Value} {o : Obj} (hB : IsB w bb F)
    (hh : w.heap[bb]? = some (.cells #[.int .i64 (F.vars : Int), v] 83 (0, 0))) (hne : v.ownBlock ≠ some bb)
    (hg : (w.alloc o).grownBy w4 v.ownBlock) : w4.cell? ⟨bb, 1, none⟩ = some v ∧ w4.frozen? ⟨bb, 1, none⟩ = false := by
  have hlt := hB.lt
  have h : w4.heap[bb]? = some (.cells #[.int .i64 (F.vars : Int), v] 83 (0, 0)) :=
    (hg.block bb (by simp; omega) (fun e => hne e.symm)).trans (by rw [heap_al, if_neg (by omega)]; exact hh)
  exact ⟨by simp [World.cell?, h], by simp [World.frozen?, h]⟩

theorem own_slice {base e n : Nat} {w : World} {v : Value} {xs : List Value} (h : w.ownsRow base e 1 v n xs) : ∃ p c, v = .slice p n c := by
  rcases h.2 with ⟨rfl, h0⟩ | ⟨g, cap, cur, rfl, _⟩
  · exact ⟨none, 0, by rw [h0]⟩
  · exact ⟨_, _, rfl⟩

theorem LL.opS {R : Nat → Prop} {w : World} {p : Option Addr} {n c : Nat} {ls : List (List Int)} (h : LL R w (.slice p n c) ls) :
    n = ls.length ∧ ∃ vs, RowR R w p vs ∧ vs.length = ls.length ∧ ∀ i (h : i < ls.length) (h' : i < vs.length), Ints R w vs[i] ls[i] := by
  obtain ⟨p', c', vs, e, h1, h2, h3, hr, hl, hi⟩ := h.op
  injection e with e1 e2 e3
  subst e1
  exact ⟨e2, vs, hr, hl, hi⟩

theorem ints_one (xs : List Int) : ∀ u ∈ xs.map (Value.int .i64), u.oneCell' = true := by
  intro u hu; obtain ⟨x, _, rfl⟩ := List.mem_map.1 hu; rfl

theorem inst_snoc (AT row : List Int) (j : Nat) (hj : j < row.length) : (row.take (j + 1)).map (place AT) = (row.take j).map (place AT) ++ [place AT row[j]] := by
  rw [List.take_succ_eq_append_getElem hj, List.map_append]; rfl
theorem map_snoc (AT : List Int) (tbl : List (List Int)) (j : Nat) (hj : j < tbl.length) : (tbl.take (j + 1)).map (inst AT) = (tbl.take j).map (inst AT) ++ [inst AT tbl[j]] := by
  rw [List.take_succ_eq_append_getElem hj, List.map_append]; rfl

theorem place_neg (AT : List Int) (x : Int) (h : x < 0) (hq : (-x).toNat < AT.length) : place AT x = -AT[(-x).toNat] := by
  unfold place; rw [if_pos h]; simp [List.getD, hq]
theorem place_pos (AT : List Int) (x : Int) (h : ¬ x < 0) (hq : x.toNat < AT.length) : place AT x = AT[x.toNat] := by
  unfold place; rw [if_neg h]; simp [List.getD, hq]

theorem below_one {B : Nat} {w w1 w4 : World} {u : Value} {t : TypeId} {v : Value} (h : Below B w w1) (hB : B ≤ w1.heap.size) (hg : (w1.alloc (.cells #[u] t)).grownBy w4 v.ownBlock) (hv : ∀ k, v.ownBlock = some k → B ≤ k) : Below B w w4 :=
  (h.alloc hB _).grown hg (by simp; omega) hv

set_option maxRecDepth 100000 in
set_option maxHeartbeats 1600000 in
theorem write_room (bb k : Nat) (hk : k ≤ 2) (F : Form) (args : List Int) (p : Option Addr) (n cap : Nat) (w : World) (hB : IsB w bb F) (hn : n = args.length) (hal : args.length = if k = 2 then 3 else 2)
    (hrow : RowR (Away bb w) w p (args.map (Value.int .i64))) (hok : hasAll F.vars args = true) (hv : F.vars < 1048576) (hc : F.cls.length + (gateTbl k).length ≤ 1048576) :
    Calls Tryd.prog 50 #[.pointer (some ⟨bb, 0, none⟩), .int .i64 (k : Int), .slice p n cap] w fun e w' =>
      e = .returned (.tuple #[.int .i64 ((F.vars : Int) + 1), .int .i64 0]) ∧ IsB w' bb ⟨F.vars + 1, F.cls ++ (gateTbl k).map (inst (0 :: ((F.vars : Int) + 1) :: args))⟩ ∧ FrB bb w w' := by
  subst hn
  have hal3 : args.length ≤ 3 := by rw [hal]; split <;> omega
  have HAL := hid hal; clear hal
  have hlt := hB.lt
  have hpos := hB.pos
  have HOK := hid hok; clear hok
  go_enter Tryd.func50, Tryd.ntmps50
  go_wp2_with fail
  refine (clauses_any _).mono ?_
  rintro e w1 ⟨v0, v1, v2, rfl, g0, g1, g2, hb1⟩
  obtain ⟨tv, hidx, hT⟩ := tbl_pick k hk g0 g1 g2
  have hB1 := hB.below hb1
  have hfr1 : FrB bb w w1 := FrB.of_below hB hb1
  have hT1 : LL (Away bb w1) w1 tv (gateTbl k) := hT.weaken fun j hj => hB.away_new hb1 hj.1 hj.2
  have hrow1 := hrow.fr hfr1
  clear g0 g1 g2 hT hrow
  obtain ⟨pt, ct, vs, rfl, ht1, ht2, ht3, hrt, hvl, hvi⟩ := hT1.op
  obtain ⟨pc, cc, h0, h1, f0, f1⟩ := hB1.cells
  have HVL := hid hvl
  clear hvl hvi hrt
  have hd : ((F.vars : Int) == 1048576) = false := by simp; omega
  have hs := hB1.setVars (F.vars + 1) (by omega) (by omega)
  rw [show (((F.vars + 1 : Nat)) : Int) = (F.vars : Int) + 1 from by omega] at hs
  obtain ⟨hB2, hfr2⟩ := hs
  have h0' := World.cell?_setCell_same (a := ⟨bb, 0, none⟩) (v := .int .i64 ((F.vars : Int) + 1)) w1 h0
  have hrow2 := hrow1.fr hfr2
  have hT2 := hT1.fr hfr2
  have hb3 : Below (w1.setCell ⟨bb, 0, none⟩ (.int .i64 ((F.vars : Int) + 1))).heap.size (w1.setCell ⟨bb, 0, none⟩ (.int .i64 ((F.vars : Int) + 1))) ((w1.setCell ⟨bb, 0, none⟩ (.int .i64 ((F.vars : Int) + 1))).alloc (.cells #[.int .i64 0, .int .i64 ((F.vars : Int) + 1)] 3)) := (Below.refl _ _).alloc (Nat.le_refl _) _
  have hrow3 := hrow2.fr (FrB.of_below hB2 hb3)
  have hown0 : ((w1.setCell ⟨bb, 0, none⟩ (.int .i64 ((F.vars : Int) + 1))).alloc (.cells #[.int .i64 0, .int .i64 ((F.vars : Int) + 1)] 3)).ownsRow w1.heap.size 3 1 (.slice (some ⟨w1.heap.size, 0, none⟩) 2 2) 2 [.int .i64 0, .int .i64 ((F.vars : Int) + 1)] := by
    have h := World.ownsRow_lit (base := w1.heap.size) (e := 3) (size := 1) (w1.setCell ⟨bb, 0, none⟩ (.int .i64 ((F.vars : Int) + 1))) #[.int .i64 0, .int .i64 ((F.vars : Int) + 1)] 2 (by simp) (by unfold maxLen; omega) rfl
    rw [World.size_setCell] at h
    exact h
  clear hrow1 hT1 hrow2
  have HT := hid hT2; clear hT2
  go_wp2_with (at_builtin; refine wpList_app _ rfl (.tmp 50) (.tmp 51) 23 rfl w1.heap.size 3 (.int .i64 0) 8 Tryd.underlying23 info_int rfl _ 2 _ rfl hown0 p args.length cap _ rfl (by simp) hrow3 (by intro u hu; obtain ⟨x, _, rfl⟩ := List.mem_map.1 hu; rfl) (by omega) (by unfold maxLen; omega) (by simp) ?_; intro v9 w3 hown3 hg3 hat3)
  have hB3' : Below (w1.setCell ⟨bb, 0, none⟩ (.int .i64 ((F.vars : Int) + 1))).heap.size (w1.setCell ⟨bb, 0, none⟩ (.int .i64 ((F.vars : Int) + 1))) w3 :=
    hb3.grown hg3 (by simp) (fun j hj => by rw [World.size_setCell]; cases hj; exact Nat.le_refl _)
  have hB3 := hB2.below hB3'
  have hfr3 : FrB bb (w1.setCell ⟨bb, 0, none⟩ (.int .i64 ((F.vars : Int) + 1))) w3 := FrB.of_below hB2 hB3'
  have hT3 := HT.out.fr hfr3
  have hat : Ints (Away bb w3) w3 v9 (0 :: ((F.vars : Int) + 1) :: args) :=
    Sl.of_owns hown3 (by omega) (fun j hj => hB2.away_new hB3' (by rw [World.size_setCell]; exact (hown3.lt j hj).1) (hown3.lt j hj).2)
  have hfrw := (hfr1.trans hfr2).trans hfr3
  clear HT hown3 hg3 hat3 hB3' hB2 hfr1 hfr2 hb3 hrow3 hown0 h0' h0 h1 f0 f1 hB1 hb1 hidx hlt hB hfr3
  generalize hAT : (0 :: ((F.vars : Int) + 1) :: args) = AT at *
  have hATb : ∀ x ∈ AT, -1048576 ≤ x ∧ x ≤ 1048576 := by
    rw [← hAT]
    intro x hx
    simp only [List.mem_cons] at hx
    rcases hx with rfl | rfl | hx
    · omega
    · omega
    · have := List.all_eq_true.1 HOK.out x hx
      simp [okLit] at this
      omega
  have hPL : ∀ row ∈ gateTbl k, row.length ≤ 4 ∧ ∀ x ∈ row, -(AT.length : Int) < x ∧ x < AT.length := by
    have h : AT.length = (if k = 2 then 3 else 2) + 2 := by rw [← hAT, ← HAL.out]; simp
    rw [h]
    have h : k = 0 ∨ k = 1 ∨ k = 2 := by omega
    rcases h with rfl | rfl | rfl <;> decide
  have HAT := hid hAT; clear hAT
  have HATB := hid hATb; clear hATb
  generalize hTB : gateTbl k = tbl at *
  have HTB := hid hTB; clear hTB
  have HPL := hid hPL; clear hPL
  go_loopw [55] (fun i wr => ∃ i' : Nat, i' ≤ tbl.length ∧ i = .int .i64 i' ∧ IsB wr bb ⟨F.vars + 1, F.cls ++ (tbl.take i').map (inst AT)⟩ ∧ FrB bb w3 wr) (fun i _ => tbl.length - (intOf i).toNat)
  case atStart => exact ⟨0, Nat.zero_le _, rfl, by simpa using hB3, Fr.refl _ _⟩
  case round =>
    obtain ⟨i, hi, rfl, hBr, hfr⟩ := hrel
    obtain ⟨wo, rfl⟩ : ∃ wo : World, wo = wr := ⟨_, rfl⟩
    by_cases hlt : i < tbl.length
    · have hT := (hT3.fr hfr).opS.2
      obtain ⟨vs', hrt, hvl, hvi⟩ := hT
      obtain ⟨b, off, rfl, hRb, hcb⟩ := hrt.at i (by omega)
      have hcell := hcb i (by omega)
      have hrowi := hvi i hlt (by omega)
      have hsnoc := map_snoc AT tbl i hlt
      obtain ⟨hr4, hplc⟩ := HPL.out _ (List.getElem_mem hlt)
      have hAT2 := hat.fr hfr
      obtain ⟨pa, ca, rfl, ha1, ha2, ha3, hra⟩ := hAT2.op
      obtain ⟨pr, cr, er, hr1, hr2, hr3, hrr⟩ := hrowi.op
      rw [er] at hcell
      have HS := hid hsnoc; clear hsnoc
      have HPC := hid hplc; clear hplc
      generalize tbl[i] = row at *
      clear hvi hcb hrowi er hrt hAT2 hat hT3
      go_wp2_with fail
      go_loopw [12, 61] (fun c j wi => ∃ j' : Nat, j' ≤ row.length ∧ j = .int .i64 j' ∧ wi.ownsRow wo.heap.size 3 1 c j' (((row.take j').map (place AT)).map (Value.int .i64)) ∧ Below wo.heap.size wo wi) (fun _ j _ => row.length - (intOf j).toNat)
      case atStart => exact ⟨0, Nat.zero_le _, rfl, World.ownsRow_nil _ _ _ _, Below.refl _ _⟩
      case round =>
        obtain ⟨j, hj, rfl, hown, hbel⟩ := hrel
        obtain ⟨wi, rfl⟩ : ∃ wi : World, wi = wr := ⟨_, rfl⟩
        have hsize := hbel.size
        by_cases hjl : j < row.length
        · obtain ⟨br, offr, rfl, hRr, hcr⟩ := hrr.atI j hjl
          have hcj := (hbel.cell (p := ⟨br, offr + j, none⟩) hRr.size).trans (hcr j hjl)
          have hx := HPC.out _ (List.getElem_mem hjl)
          have hsn := inst_snoc AT row j hjl
          generalize row[j] = x at *
          clear hcr hrr
          by_cases hx0 : x < 0
          · have hq : (-x).toNat < AT.length := by omega
            obtain ⟨ba, offa, rfl, hRa, hca⟩ := hra.atI _ hq
            have hcq := (hbel.cell (p := ⟨ba, offa + (-x).toNat, none⟩) hRa.size).trans (hca _ hq)
            have hy := HATB.out _ (List.getElem_mem hq)
            have hpl := place_neg AT x hx0 hq
            rw [hpl] at hsn
            generalize AT[(-x).toNat] = y at *
            have HSN := hid hsn
            clear hsn hpl hca hra hRa hRr
            go_wp2_with (at_builtin; refine wpList_app _ rfl (.tmp 67) (.tmp 74) 23 rfl wo.heap.size 3 (.int .i64 0) 8 Tryd.underlying23 info_int rfl _ j _ rfl (hown.alloc _) (some ⟨wi.heap.size, 0, none⟩) 1 1 [.int .i64 (-y)] rfl rfl (RowR.one _ _ _) (by simp [Value.oneCell']) (by omega) (by unfold maxLen; omega) (by simp; omega) ?_; intro c' w4 hown4 hg4 hat4)
            go_roundw
            case rel => exact ⟨j + 1, by omega, by go_num, by rw [HSN.out, List.map_append]; exact hown4, below_one hbel hsize hg4 (own_ge hown)⟩
            case measure => simp [intOf]; omega
          · have hq : x.toNat < AT.length := by omega
            obtain ⟨ba, offa, rfl, hRa, hca⟩ := hra.atI _ hq
            have hcq := (hbel.cell (p := ⟨ba, offa + x.toNat, none⟩) hRa.size).trans (hca _ hq)
            have hy := HATB.out _ (List.getElem_mem hq)
            have hpl := place_pos AT x hx0 hq
            rw [hpl] at hsn
            generalize AT[x.toNat] = y at *
            have HSN := hid hsn
            clear hsn hpl hca hra hRa hRr
            go_wp2_with (at_builtin; refine wpList_app _ rfl (.tmp 76) (.tmp 81) 23 rfl wo.heap.size 3 (.int .i64 0) 8 Tryd.underlying23 info_int rfl _ j _ rfl (hown.alloc _) (some ⟨wi.heap.size, 0, none⟩) 1 1 [.int .i64 y] rfl rfl (RowR.one _ _ _) (by simp [Value.oneCell']) (by omega) (by unfold maxLen; omega) (by simp; omega) ?_; intro c' w4 hown4 hg4 hat4)
            go_roundw
            case rel => exact ⟨j + 1, by omega, by go_num, by rw [HSN.out, List.map_append]; exact hown4, below_one hbel hsize hg4 (own_ge hown)⟩
            case measure => simp [intOf]; omega
        · obtain rfl : j = row.length := by omega
          rw [List.take_length] at hown
          have hBi := hBr.below hbel
          have hvc : Ints (Away bb wi) wi u12 (inst AT row) := by
            refine Sl.of_owns (n := row.length) hown hr3 (fun j hj => hBr.away_new hbel (hown.lt j hj).1 (hown.lt j hj).2)
          obtain ⟨v, vs2, hh, ho, hne, hl2, hc2, hr2'⟩ := hBi.ex
          have hvr : ∀ k, u12.ownBlock = some k → Away bb wi k := fun j hj => hBr.away_new hbel (hown.lt j hj).1 (hown.lt j hj).2
          obtain ⟨pv, cv, rfl⟩ := own_slice ho
          have hroom : (F.cls ++ (tbl.take i).map (inst AT)).length + 1 ≤ 1048576 := by simp; omega
          have hl3 : vs2.length ≤ 1048575 := by rw [hl2]; show (F.cls ++ (tbl.take i).map (inst AT)).length ≤ _; omega
          have hcv : wi.cell? ⟨bb, 1, none⟩ = some (.slice pv vs2.length cv) := by simp [World.cell?, hh]
          have hcf : wi.frozen? ⟨bb, 1, none⟩ = false := by simp [World.frozen?, hh]
          have hfr' : Fr (Away bb w3) (fun k => Away bb wi k ∧ u12.ownBlock ≠ some k) w3 wi :=
            hfr.trans ((FrB.of_below hBr hbel).weaken (fun _ h => h) (fun k hk hk' => ⟨hk', fun e => by have := own_ge hown k e; have := hk.size; omega⟩))
          obtain ⟨pc2, cc2, rfl, _⟩ := own_slice hown
          have HVR := hid hvr; clear hvr
          have HR2 := hid hr2'; clear hr2'
          have HROOM := hid hroom; clear hroom
          have HL2 := hid hl2; clear hl2
          have HH := hid hh; clear hh
          have HC2 := hid hc2; clear hc2
          have HNE := hid hne; clear hne
          have HHV := hid hvc; clear hvc
          clear hrr hra hBr hown hbel
          go_wp2_with (at_builtin; refine wpList_app _ rfl (.tmp 89) (.tmp 91) 50 rfl 0 23 (.slice none 0 0) 24 Tryd.underlying50 info_ints rfl _ _ _ rfl (ho.alloc _) (some ⟨wi.heap.size, 0, none⟩) 1 1 [_] rfl rfl (RowR.one _ _ _) (by simp [Value.oneCell']) (by omega) (by unfold maxLen; omega) (by simp) ?_; intro v' w4 hown4 hg4 hat4; obtain ⟨q1, q2⟩ := hBi.push0 HH.out HNE.out hg4; obtain ⟨pv', cv', rfl⟩ := own_slice hown4)
          have hp := hBi.push HH.out ho HNE.out HL2.out HC2.out HR2.out HHV.out HVR.out HROOM.out hg4 hown4 hat4
          go_roundw
          case rel => exact ⟨i + 1, by omega, by go_num, by rw [HS.out]; have := hp.1; rwa [List.append_assoc] at this, hfr'.trans hp.2⟩
          case measure => simp [intOf]; omega
    · obtain rfl : i = tbl.length := by omega
      have hfin := hfrw.trans hfr
      rw [List.take_length] at hBr
      obtain ⟨pc', cc', h0, h1, f0, f1⟩ := hBr.cells
      rw [show (((⟨F.vars + 1, F.cls ++ List.map (inst AT) tbl⟩ : Form).vars : Nat) : Int) = (F.vars : Int) + 1 from by simp] at h0
      have HF := hid hfin
      clear hfin hfr hfrw f0 f1 h1 hT3 hat hB3
      go_wp2
      go_ret2
      refine ⟨rfl, ?_, HF.out⟩
      rw [HAT.out, HTB.out]; exact hBr

end Go.Proofs.YtjcnhnifageikaaDoor
