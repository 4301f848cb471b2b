/-
  The walk of package gate's Formula.
-/
import Derived.Test.YtjcnhnifageikaaDoorLaw1
import Derived.Deep.RegionLaw
import Derived.BigRegion
namespace Go.Proofs.YtjcnhnifageikaaDoor
set_option linter.unusedSimpArgs false
set_option linter.unusedVariables false
open Go.RowKit

theorem make_run {P : Program} {t e : TypeId} {z : Value} {bytes : Nat} (ht : P.underlying t = some (.slice e))
    (hinfo : (P.info? e).map (fun i => (i.zero, i.size, i.bytes)) = some (some z, 1, bytes)) (hzs : z.cells = #[z]) (n : Nat) (hb : bytes * n ≤ 281474976710656) (hn : n ≤ 281474976710656) (w : World) :
    (Instr.makeSlice t (.int .i64 (n : Int)) (.int .i64 (n : Int))).run P w = .ok (.slice (some ⟨w.heap.size, 0, none⟩) n n) (w.alloc (.cells (Array.replicate n z) e)) := by
  obtain ⟨i, hi, hz, hs1, hby⟩ := info_parts hinfo
  have h := run_make (P := P) w t e i z ht hi hz .i64 .i64 (n : Int) (n : Int) (by omega) (Int.le_refl _) (by rw [hby]; omega) (by omega)
  rw [h]
  simp only [Int.toNat_natCast, hs1, Nat.mul_one, hzs]
  have e : madeCells #[z] n = Array.replicate n z := by
    apply Array.ext
    · simp [madeCells]
    · intro i h1 h2
      simp [madeCells, Nat.mod_one]
  rw [e]

/-- A block of cells behind a store into it. -/
theorem heap_set_same {w : World} {b j : Nat} {cs : Array Value} {t : TypeId} {fz : Nat × Nat} (h : w.heap[b]? = some (.cells cs t fz)) (v : Value) :
    (w.setCell ⟨b, j, none⟩ v).heap[b]? = some (.cells (cs.setIfInBounds j v) t fz) := by
  obtain ⟨hlt, hk⟩ := Array.getElem?_eq_some_iff.1 h
  show (w.heap.modify b _)[b]? = _
  rw [Array.getElem?_eq_getElem (by rw [Array.size_modify]; exact hlt), Array.getElem_modify_self, hk]
  rfl
theorem cell_of_cells {w : World} {b j : Nat} {cs : Array Value} {t : TypeId} {fz : Nat × Nat} (h : w.heap[b]? = some (.cells cs t fz)) : w.cell? ⟨b, j, none⟩ = cs[j]? := by
  unfold World.cell?; rw [h]; simp
theorem frozen_of_cells {w : World} {b j : Nat} {cs : Array Value} {t : TypeId} (h : w.heap[b]? = some (.cells cs t (0, 0))) : w.frozen? ⟨b, j, none⟩ = false := by
  unfold World.frozen?; rw [h]; simp

/-- What Formula's loop carries. -/
structure FormI (w0 : World) (Mb Bx : Nat) (vars : Int) (cls : List (List Int)) (k : Nat) (wr : World) : Prop where
  below : Below w0.heap.size w0 wr
  size : w0.heap.size + 3 ≤ wr.heap.size
  bx : wr.heap[Bx]? = some (.cells #[.int .i64 vars, .slice (some ⟨Mb, 0, none⟩) cls.length cls.length] 52 (0, 0))
  t : wr.heap[w0.heap.size]? = some (.cells #[.int .i64 0, .slice none 0 0] 52 (0, 0))
  m : ∃ cur, wr.heap[Mb]? = some (.cells cur 23 (0, 0)) ∧ cur.size = cls.length ∧ ∀ j (h : j < cls.length), j < k → ∃ u, cur[j]? = some u ∧ Ints (fun b => w0.heap.size + 3 ≤ b ∧ b < wr.heap.size) wr u cls[j]

theorem FormI.step {w0 wr w4 : World} {Mb Bx : Nat} {vars : Int} {cls : List (List Int)} {k : Nat} {v' : Value} (h : FormI w0 Mb Bx vars cls k wr) (hk : k < cls.length)
    (h1 : Mb < w0.heap.size + 3) (h2 : Bx < w0.heap.size + 3) (h3 : w0.heap.size < Mb) (h4 : Bx ≠ Mb) (hg : wr.grownBy w4 none)
    (ho : w4.ownsRow wr.heap.size 3 1 v' cls[k].length (cls[k].map (Value.int .i64))) (hlen : cls[k].length ≤ 140737488355328) : FormI w0 Mb Bx vars cls (k + 1) (w4.setCell ⟨Mb, k, none⟩ v') := by
  have hs := h.size
  have hs4 := hg.size
  have hsz : (w4.setCell ⟨Mb, k, none⟩ v').heap.size = w4.heap.size := World.size_setCell _ _ _
  have hb : ∀ j, j < wr.heap.size → j ≠ Mb → (w4.setCell ⟨Mb, k, none⟩ v').heap[j]? = wr.heap[j]? := fun j hj hne => (Below.heap_setCell _ _ _ _ hne).trans (hg.block j hj (by simp))
  have hb' : ∀ j, j ≠ Mb → (w4.setCell ⟨Mb, k, none⟩ v').heap[j]? = w4.heap[j]? := fun j hne => Below.heap_setCell _ _ _ _ hne
  refine ⟨⟨hg.os.trans h.below.os, hg.tape.trans h.below.tape, hg.output.trans h.below.output, by rw [hsz]; omega, fun j hj => (hb j (by omega) (by omega)).trans (h.below.block j hj)⟩, by rw [hsz]; omega, (hb Bx (by omega) h4).trans h.bx, (hb _ (by omega) (by omega)).trans h.t, ?_⟩
  obtain ⟨cur, hm, hcs, hc⟩ := h.m
  have hm4 := (hg.block Mb (by omega) (by simp)).trans hm
  refine ⟨_, heap_set_same hm4 v', by simp [hcs], fun j hj hjk => ?_⟩
  by_cases hjk' : j = k
  · subst hjk'
    refine ⟨v', by simp [hcs, hj], ?_⟩
    refine (Sl.of_owns (R := fun b => w0.heap.size + 3 ≤ b ∧ b < w4.heap.size) ho hlen (fun b hb => by have := ho.lt b hb; omega)).keep fun b hb => ⟨by rw [hsz]; exact hb, hb' b (by omega)⟩
  · obtain ⟨u, hu, hi⟩ := hc j hj (by omega)
    refine ⟨u, by rw [Array.getElem?_setIfInBounds_ne (by omega)]; exact hu, hi.keep fun b hb' => ⟨by rw [hsz]; omega, hb b (by omega) (by omega)⟩⟩

set_option maxRecDepth 100000 in
set_option maxHeartbeats 3200000 in
theorem formula_any (bb : Nat) (F : Form) (w : World) (hB : IsB w bb F) (hLen : ∀ c ∈ F.cls, c.length ≤ 1048576) :
    Calls Tryd.prog 20 #[.pointer (some ⟨bb, 0, none⟩)] w fun e w' =>
      ∃ v, e = .returned (.agg #[.int .i64 F.vars, v]) ∧ LL (fun k => w.heap.size ≤ k ∧ k < w'.heap.size) w' v F.cls ∧ Below w.heap.size w w' := by
  have hcl := hB.cls
  have hlt := hB.lt
  obtain ⟨v, vs, hh, ho, hne, hl, hcs, hrd⟩ := hB.ex
  obtain ⟨p, c, rfl⟩ := own_slice ho
  have hsl : Sl (· < w.heap.size) w (.slice p vs.length c) vs := Sl.of_owns ho (by omega) (fun k hk => (ho.lt k hk).2)
  obtain ⟨p', c', e', _, _, _, hr⟩ := hsl
  have : p = p' := by injection e'
  subst this
  clear e'
  rw [hl] at hh
  have c0 : w.cell? ⟨bb, 0, none⟩ = some (.int .i64 F.vars) := by simp [World.cell?, hh]
  have c1 : w.cell? ⟨bb, 1, none⟩ = some (.slice p F.cls.length c) := by simp [World.cell?, hh]
  have hmk := make_run Tryd.underlying50 info_ints rfl F.cls.length (by omega) (by omega)
  have d0 : ∀ (a1 a2 a3 : Array Value) (t1 t2 t3 : TypeId), (((w.alloc (.cells a1 t1)).alloc (.cells a2 t2)).alloc (.cells a3 t3)).cell? ⟨bb, 0, none⟩ = some (.int .i64 F.vars) := fun a1 a2 a3 t1 t2 t3 => by
    rw [cell_al, if_neg (by simp only [World.size_alloc]; omega), cell_al, if_neg (by simp only [World.size_alloc]; omega), cell_al, if_neg (by omega)]; exact c0
  have d1 : ∀ (a1 a2 a3 : Array Value) (t1 t2 t3 : TypeId), (((w.alloc (.cells a1 t1)).alloc (.cells a2 t2)).alloc (.cells a3 t3)).cell? ⟨bb, 1, none⟩ = some (.slice p F.cls.length c) := fun a1 a2 a3 t1 t2 t3 => by
    rw [cell_al, if_neg (by simp only [World.size_alloc]; omega), cell_al, if_neg (by simp only [World.size_alloc]; omega), cell_al, if_neg (by omega)]; exact c1
  have HLEN := hid hLen; clear hLen
  have HCS := hid hcs; have HRD := hid hrd; have HHH := hid hh; have HO := hid ho; have HNE := hid hne; have HL := hid hl
  clear hcs hrd hh ho hne hl hB
  go_enter Tryd.func20, Tryd.ntmps20
  go_wp2_with fail
  go_region
  · clear hmk d0 d1
    generalize hW0 : World.alloc (World.alloc (World.alloc w _) _) _ = W0
    have hI0 : FormI w (w.heap.size + 1) (w.heap.size + 1 + 1) F.vars F.cls 0 W0.drew := by
      refine ⟨?_, by rw [← hW0]; simp only [World.size_drew, World.size_alloc]; omega, ?_, ?_, ⟨Array.replicate F.cls.length (.slice none 0 0), ?_, by simp, fun j _ hj => by omega⟩⟩
      · rw [← hW0]; exact ((((Below.refl _ _).alloc (Nat.le_refl _) _).alloc (by simp only [World.size_alloc]; omega) _).alloc (by simp only [World.size_alloc]; omega) _).drew
      · show W0.heap[_]? = _
        rw [← hW0, heap_al, if_pos (by simp only [World.size_alloc])]
      · show W0.heap[_]? = _
        rw [← hW0, heap_al, if_neg (by simp only [World.size_alloc]; omega), heap_al, if_neg (by simp only [World.size_alloc]; omega), heap_al, if_pos rfl]
      · show W0.heap[_]? = _
        rw [← hW0, heap_al, if_neg (by simp only [World.size_alloc]; omega), heap_al, if_pos (by simp only [World.size_alloc])]
    have cb1 : W0.cell? ⟨bb, 1, none⟩ = some (.slice p F.cls.length c) := (hI0.below.cell (p := ⟨bb, 1, none⟩) hlt).trans c1
    clear hW0 c0 c1
    go_wp2_with fail
    go_loopw [28] (fun i wr => ∃ k : Nat, k ≤ F.cls.length ∧ i = .int .i64 k ∧ FormI w (w.heap.size + 1) (w.heap.size + 1 + 1) F.vars F.cls k wr) (fun i _ => F.cls.length - (intOf i).toNat)
    case atStart => exact ⟨0, Nat.zero_le _, rfl, hI0⟩
    case round =>
      obtain ⟨k, hk, rfl, hI⟩ := hrel
      obtain ⟨wo, rfl⟩ : ∃ wo : World, wo = wr := ⟨_, rfl⟩
      have hwo := hI.size
      by_cases hkl : k < F.cls.length
      · have hvl := HL.out
        obtain ⟨b, off, rfl, hRb, hc⟩ := hr.at k (by omega)
        have hci := (hI.below.cell (p := ⟨b, off + k, none⟩) hRb).trans (hc k (by omega))
        obtain ⟨pk, ck, ek, _, _, hkm, hrk⟩ := (HCS.out k hkl (by omega)).op
        rw [ek] at hci
        have hkl2 := HLEN.out _ (List.getElem_mem hkl)
        have hrk' : RowR (· < w.heap.size) wo.drew pk (F.cls[k].map (Value.int .i64)) := hrk.keep fun j hj => ⟨hj.1, hI.below.block j hj.1⟩
        obtain ⟨cur, hm, hcs, _⟩ := hI.m
        have cm : wo.cell? ⟨w.heap.size + 1, k, none⟩ = some cur[k] := by rw [cell_of_cells hm, Array.getElem?_eq_getElem (by omega)]
        have fm : wo.frozen? ⟨w.heap.size + 1, k, none⟩ = false := frozen_of_cells hm
        have cx : wo.cell? ⟨w.heap.size + 1 + 1, 1, none⟩ = some (.slice (some ⟨w.heap.size + 1, 0, none⟩) F.cls.length F.cls.length) := by rw [cell_of_cells hI.bx]; rfl
        have HST := hid (fun w4 v' => @FormI.step w wo w4 (w.heap.size + 1) (w.heap.size + 1 + 1) F.vars F.cls k v' hI hkl)
        have HI := hid hI
        clear hI hc hrk ek hm HCS
        generalize F.cls[k] = l at *
        go_wp2_with fail
        go_region_law (refine step_app _ rfl (.const (.slice none 0 0)) (.tmp 36) 23 rfl wo.heap.size 3 (.int .i64 0) 8 Tryd.underlying23 info_int rfl (.slice none 0 0) 0 [] rfl (World.ownsRow_nil _ _ _ _) pk l.length ck _ rfl (by simp) hrk' (by intro u hu; obtain ⟨x, _, rfl⟩ := List.mem_map.1 hu; rfl) (by omega) (by unfold maxLen; omega) (Nat.le_refl _) ?_; intro v' w4 hown4 hg4 hat4; have cx4 := hg4.cell cx (by simp [Value.ownBlock]); have cm4 := hg4.cell cm (by simp [Value.ownBlock]); have fm4 := (hg4.frozen_far ⟨w.heap.size + 1, k, none⟩ (by show w.heap.size + 1 < wo.heap.size; omega) (by simp [Value.ownBlock])).trans fm; rw [Nat.zero_add] at hown4; obtain ⟨p4, c4, rfl⟩ := own_slice hown4)
        all_goals
          go_wp2
          go_roundw
          case rel => exact ⟨k + 1, by omega, by go_num, HST.out _ _ (by omega) (by omega) (by omega) (by omega) ⟨hg4.os, hg4.tape, hg4.output, hg4.size, fun j hj hj2 => hg4.block j hj hj2⟩ hown4 (by omega)⟩
          case measure => simp [intOf]; omega
      · obtain rfl : k = F.cls.length := by omega
        obtain ⟨cur, hm, hcs, hcu⟩ := hI.m
        have cx0 : wo.cell? ⟨w.heap.size + 1 + 1, 0, none⟩ = some (.int .i64 F.vars) := by rw [cell_of_cells hI.bx]; rfl
        have cx1 : wo.cell? ⟨w.heap.size + 1 + 1, 1, none⟩ = some (.slice (some ⟨w.heap.size + 1, 0, none⟩) F.cls.length F.cls.length) := by rw [cell_of_cells hI.bx]; rfl
        have ct0 : wo.cell? ⟨w.heap.size, 0, none⟩ = some (.int .i64 0) := by rw [cell_of_cells hI.t]; rfl
        have ct1 : wo.cell? ⟨w.heap.size, 1, none⟩ = some (.slice none 0 0) := by rw [cell_of_cells hI.t]; rfl
        have ft0 : wo.frozen? ⟨w.heap.size, 0, none⟩ = false := frozen_of_cells hI.t
        have ft1 : wo.frozen? ⟨w.heap.size, 1, none⟩ = false := frozen_of_cells hI.t
        have HI := hid hI; have HM := hid hm; have HCU := hid hcu
        clear hI hm hcu
        go_wp2
        have hI := HI.out
        have hm := HM.out
        have hcu := HCU.out
        generalize hwf : World.setCell (World.setCell wo _ _) _ _ = wf
        have hbf : ∀ j, j ≠ w.heap.size → wf.heap[j]? = wo.heap[j]? := fun j hj => by
          rw [← hwf]; exact (Below.heap_setCell _ _ _ _ hj).trans (Below.heap_setCell _ _ _ _ hj)
        have hsf : wf.heap.size = wo.heap.size := by rw [← hwf, World.size_setCell, World.size_setCell]
        have htf : wf.heap[w.heap.size]? = some (.cells #[.int .i64 F.vars, .slice (some ⟨w.heap.size + 1, 0, none⟩) F.cls.length F.cls.length] 52 (0, 0)) := by
          rw [← hwf]; exact heap_set_same (heap_set_same hI.t _) _
        have hbw : Below w.heap.size w wf := ⟨by rw [← hwf]; exact hI.below.os, by rw [← hwf]; exact hI.below.tape, by rw [← hwf]; exact hI.below.output, by rw [hsf]; exact hI.below.size, fun j hj => (hbf j (by omega)).trans (hI.below.block j hj)⟩
        have cf0 : wf.cell? ⟨w.heap.size, 0, none⟩ = some (.int .i64 F.vars) := by rw [cell_of_cells htf]; rfl
        have cf1 : wf.cell? ⟨w.heap.size, 1, none⟩ = some (.slice (some ⟨w.heap.size + 1, 0, none⟩) F.cls.length F.cls.length) := by rw [cell_of_cells htf]; rfl
        refine bodyPost_ret (v := .agg #[.int .i64 F.vars, .slice (some ⟨w.heap.size + 1, 0, none⟩) F.cls.length F.cls.length]) (by simp [results, Tryd.results20, go_sem, cf0, cf1]) rfl ?_
        refine ⟨_, rfl, ⟨cur.toList, ⟨_, F.cls.length, by rw [Array.length_toList, hcs], by rw [Array.length_toList]; omega, by unfold maxLen; omega, by rw [Array.length_toList]; omega, .inr ⟨_, 0, rfl, by rw [hsf]; omega, fun j hj => ?_⟩⟩, by rw [Array.length_toList, hcs], fun i hi hi' => ?_⟩, hbw⟩
        · rw [Nat.zero_add, cell_of_cells ((hbf _ (by omega)).trans hm)]
          rw [Array.length_toList] at hj
          simp [hj]
        · obtain ⟨u, hu, hus⟩ := hcu i hi hi
          have hiu : cur.toList[i] = u := by
            rw [Array.length_toList] at hi'
            rw [Array.getElem?_eq_getElem hi'] at hu
            injection hu
          rw [hiu]
          exact hus.keep fun j hj => ⟨by rw [hsf]; omega, hbf j (by omega)⟩
  · clear hmk d0 d1
    generalize hW0 : World.alloc (World.alloc (World.alloc w _) _) _ = W0
    have hI0 : FormI w (w.heap.size + 1 + 1) (w.heap.size + 1) F.vars F.cls 0 W0.drew := by
      refine ⟨?_, by rw [← hW0]; simp only [World.size_drew, World.size_alloc]; omega, ?_, ?_, ⟨Array.replicate F.cls.length (.slice none 0 0), ?_, by simp, fun j _ hj => by omega⟩⟩
      · rw [← hW0]; exact ((((Below.refl _ _).alloc (Nat.le_refl _) _).alloc (by simp only [World.size_alloc]; omega) _).alloc (by simp only [World.size_alloc]; omega) _).drew
      · show W0.heap[_]? = _
        rw [← hW0, heap_al, if_neg (by simp only [World.size_alloc]; omega), heap_al, if_pos (by simp only [World.size_alloc])]
      · show W0.heap[_]? = _
        rw [← hW0, heap_al, if_neg (by simp only [World.size_alloc]; omega), heap_al, if_neg (by simp only [World.size_alloc]; omega), heap_al, if_pos rfl]
      · show W0.heap[_]? = _
        rw [← hW0, heap_al, if_pos (by simp only [World.size_alloc])]
    have cb1 : W0.cell? ⟨bb, 1, none⟩ = some (.slice p F.cls.length c) := (hI0.below.cell (p := ⟨bb, 1, none⟩) hlt).trans c1
    clear hW0 c0 c1
    go_wp2_with fail
    go_loopw [28] (fun i wr => ∃ k : Nat, k ≤ F.cls.length ∧ i = .int .i64 k ∧ FormI w (w.heap.size + 1 + 1) (w.heap.size + 1) F.vars F.cls k wr) (fun i _ => F.cls.length - (intOf i).toNat)
    case atStart => exact ⟨0, Nat.zero_le _, rfl, hI0⟩
    case round =>
      obtain ⟨k, hk, rfl, hI⟩ := hrel
      obtain ⟨wo, rfl⟩ : ∃ wo : World, wo = wr := ⟨_, rfl⟩
      have hwo := hI.size
      by_cases hkl : k < F.cls.length
      · have hvl := HL.out
        obtain ⟨b, off, rfl, hRb, hc⟩ := hr.at k (by omega)
        have hci := (hI.below.cell (p := ⟨b, off + k, none⟩) hRb).trans (hc k (by omega))
        obtain ⟨pk, ck, ek, _, _, hkm, hrk⟩ := (HCS.out k hkl (by omega)).op
        rw [ek] at hci
        have hkl2 := HLEN.out _ (List.getElem_mem hkl)
        have hrk' : RowR (· < w.heap.size) wo.drew pk (F.cls[k].map (Value.int .i64)) := hrk.keep fun j hj => ⟨hj.1, hI.below.block j hj.1⟩
        obtain ⟨cur, hm, hcs, _⟩ := hI.m
        have cm : wo.cell? ⟨w.heap.size + 1 + 1, k, none⟩ = some cur[k] := by rw [cell_of_cells hm, Array.getElem?_eq_getElem (by omega)]
        have fm : wo.frozen? ⟨w.heap.size + 1 + 1, k, none⟩ = false := frozen_of_cells hm
        have cx : wo.cell? ⟨w.heap.size + 1, 1, none⟩ = some (.slice (some ⟨w.heap.size + 1 + 1, 0, none⟩) F.cls.length F.cls.length) := by rw [cell_of_cells hI.bx]; rfl
        have HST := hid (fun w4 v' => @FormI.step w wo w4 (w.heap.size + 1 + 1) (w.heap.size + 1) F.vars F.cls k v' hI hkl)
        have HI := hid hI
        clear hI hc hrk ek hm HCS
        generalize F.cls[k] = l at *
        go_wp2_with fail
        go_region_law (refine step_app _ rfl (.const (.slice none 0 0)) (.tmp 36) 23 rfl wo.heap.size 3 (.int .i64 0) 8 Tryd.underlying23 info_int rfl (.slice none 0 0) 0 [] rfl (World.ownsRow_nil _ _ _ _) pk l.length ck _ rfl (by simp) hrk' (by intro u hu; obtain ⟨x, _, rfl⟩ := List.mem_map.1 hu; rfl) (by omega) (by unfold maxLen; omega) (Nat.le_refl _) ?_; intro v' w4 hown4 hg4 hat4; have cx4 := hg4.cell cx (by simp [Value.ownBlock]); have cm4 := hg4.cell cm (by simp [Value.ownBlock]); have fm4 := (hg4.frozen_far ⟨w.heap.size + 1 + 1, k, none⟩ (by show w.heap.size + 1 + 1 < wo.heap.size; omega) (by simp [Value.ownBlock])).trans fm; rw [Nat.zero_add] at hown4; obtain ⟨p4, c4, rfl⟩ := own_slice hown4)
        all_goals
          go_wp2
          go_roundw
          case rel => exact ⟨k + 1, by omega, by go_num, HST.out _ _ (by omega) (by omega) (by omega) (by omega) ⟨hg4.os, hg4.tape, hg4.output, hg4.size, fun j hj hj2 => hg4.block j hj hj2⟩ hown4 (by omega)⟩
          case measure => simp [intOf]; omega
      · obtain rfl : k = F.cls.length := by omega
        obtain ⟨cur, hm, hcs, hcu⟩ := hI.m
        have cx0 : wo.cell? ⟨w.heap.size + 1, 0, none⟩ = some (.int .i64 F.vars) := by rw [cell_of_cells hI.bx]; rfl
        have cx1 : wo.cell? ⟨w.heap.size + 1, 1, none⟩ = some (.slice (some ⟨w.heap.size + 1 + 1, 0, none⟩) F.cls.length F.cls.length) := by rw [cell_of_cells hI.bx]; rfl
        have ct0 : wo.cell? ⟨w.heap.size, 0, none⟩ = some (.int .i64 0) := by rw [cell_of_cells hI.t]; rfl
        have ct1 : wo.cell? ⟨w.heap.size, 1, none⟩ = some (.slice none 0 0) := by rw [cell_of_cells hI.t]; rfl
        have ft0 : wo.frozen? ⟨w.heap.size, 0, none⟩ = false := frozen_of_cells hI.t
        have ft1 : wo.frozen? ⟨w.heap.size, 1, none⟩ = false := frozen_of_cells hI.t
        have HI := hid hI; have HM := hid hm; have HCU := hid hcu
        clear hI hm hcu
        go_wp2
        have hI := HI.out
        have hm := HM.out
        have hcu := HCU.out
        generalize hwf : World.setCell (World.setCell wo _ _) _ _ = wf
        have hbf : ∀ j, j ≠ w.heap.size → wf.heap[j]? = wo.heap[j]? := fun j hj => by
          rw [← hwf]; exact (Below.heap_setCell _ _ _ _ hj).trans (Below.heap_setCell _ _ _ _ hj)
        have hsf : wf.heap.size = wo.heap.size := by rw [← hwf, World.size_setCell, World.size_setCell]
        have htf : wf.heap[w.heap.size]? = some (.cells #[.int .i64 F.vars, .slice (some ⟨w.heap.size + 1 + 1, 0, none⟩) F.cls.length F.cls.length] 52 (0, 0)) := by
          rw [← hwf]; exact heap_set_same (heap_set_same hI.t _) _
        have hbw : Below w.heap.size w wf := ⟨by rw [← hwf]; exact hI.below.os, by rw [← hwf]; exact hI.below.tape, by rw [← hwf]; exact hI.below.output, by rw [hsf]; exact hI.below.size, fun j hj => (hbf j (by omega)).trans (hI.below.block j hj)⟩
        have cf0 : wf.cell? ⟨w.heap.size, 0, none⟩ = some (.int .i64 F.vars) := by rw [cell_of_cells htf]; rfl
        have cf1 : wf.cell? ⟨w.heap.size, 1, none⟩ = some (.slice (some ⟨w.heap.size + 1 + 1, 0, none⟩) F.cls.length F.cls.length) := by rw [cell_of_cells htf]; rfl
        refine bodyPost_ret (v := .agg #[.int .i64 F.vars, .slice (some ⟨w.heap.size + 1 + 1, 0, none⟩) F.cls.length F.cls.length]) (by simp [results, Tryd.results20, go_sem, cf0, cf1]) rfl ?_
        refine ⟨_, rfl, ⟨cur.toList, ⟨_, F.cls.length, by rw [Array.length_toList, hcs], by rw [Array.length_toList]; omega, by unfold maxLen; omega, by rw [Array.length_toList]; omega, .inr ⟨_, 0, rfl, by rw [hsf]; omega, fun j hj => ?_⟩⟩, by rw [Array.length_toList, hcs], fun i hi hi' => ?_⟩, hbw⟩
        · rw [Nat.zero_add, cell_of_cells ((hbf _ (by omega)).trans hm)]
          rw [Array.length_toList] at hj
          simp [hj]
        · obtain ⟨u, hu, hus⟩ := hcu i hi hi
          have hiu : cur.toList[i] = u := by
            rw [Array.length_toList] at hi'
            rw [Array.getElem?_eq_getElem hi'] at hu
            injection hu
          rw [hiu]
          exact hus.keep fun j hj => ⟨by rw [hsf]; omega, hbf j (by omega)⟩

end Go.Proofs.YtjcnhnifageikaaDoor
