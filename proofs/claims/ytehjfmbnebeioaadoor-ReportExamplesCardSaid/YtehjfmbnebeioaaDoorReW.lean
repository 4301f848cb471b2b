/-
  The law ReportExamples: names and witnesses are copied.
-/
import Derived.Test.YtehjfmbnebeioaaDoorRpG
import Derived.Test.YtehjfmbnebeioaaDoorRpC
import Derived.Deep.DeepCutAuto
namespace Go.Proofs.YtehjfmbnebeioaaDoor
set_option linter.unusedSimpArgs false
set_option linter.unusedVariables false
open Go.RowKit Go.Shelf
attribute [local go_sem] Oper.semAt_some
set_option maxRecDepth 100000 in
set_option maxHeartbeats 2000000 in
theorem copyrow_any (l : List By) (v : Value) (R : Nat → Prop) (w : World) (hv : Strs R w v l) (hR : ∀ i, R i → i < w.heap.size) (hl : l.length ≤ 8796093022207) :
    Calls Tryd.prog 30 #[v] w fun e w' => (∃ u, e = .returned u ∧ w'.ownsRow w.heap.size 9 1 u l.length (l.map sV)) ∧ Below w.heap.size w w' := by
  obtain ⟨p, c, rfl, g1, g2, g3, hr⟩ := hv.op
  have HR := hid hr; have HRR := hid hR
  clear hv hr hR
  go_enter Tryd.func30, Tryd.ntmps30
  go_wp2
  go_loopw [3, 4] (fun ov iv wr => ∃ k : Nat, k ≤ l.length ∧ iv = .int .i64 k ∧ wr.ownsRow w.heap.size 9 1 ov k ((l.take k).map sV) ∧ Below w.heap.size w wr) (fun _ iv _ => l.length - (intOf iv).toNat)
  case atStart => exact ⟨0, Nat.zero_le _, rfl, World.ownsRow_nil _ _ _ _, Below.refl _ _⟩
  case round =>
    obtain ⟨k, hk, rfl, ho, hb⟩ := hrel
    obtain ⟨wo, rfl⟩ : ∃ wo : World, wo = wr := ⟨_, rfl⟩
    obtain ⟨po, co, rfl⟩ := owns_sliceL ho
    have HO := hid ho; have HBL := hid hb
    clear ho hb
    by_cases hlt : k < l.length
    · obtain ⟨b0, o0, rfl, hR0, hcc⟩ := HR.out.atS k hlt
      have hcell := (HBL.out.cell (p := ⟨b0, o0 + k, none⟩) (HRR.out _ hR0)).trans (hcc k hlt)
      have HSN := hid (show (l.take (k + 1)).map sV = (l.take k).map sV ++ [sV l[k]] from by rw [List.take_add_one, List.getElem?_eq_getElem hlt, List.map_append]; rfl)
      clear hcc
      generalize l[k] = x at *
      have hsz := HBL.out.size
      go_wp2_with (at_builtin; refine wpList_app _ rfl (.tmp 11) (.tmp 16) 27 rfl w.heap.size 9 (.string ⟨#[]⟩) 16 Tryd.underlying27 info_strC rfl _ k _ rfl (HO.out.alloc _) (some ⟨wo.heap.size, 0, none⟩) 1 1 [sV x] rfl rfl (RowR.lit (R := fun _ => True) wo [sV x] 9 trivial) (by simp [sV, Value.oneCell']) (by omega) (by unfold maxLen; omega) (by rw [World.size_alloc]; omega) ?_; intro v5 w5 ho5 hg5 _; have HO5 := hid ho5; have HG5 := hid hg5; clear ho5 hg5)
      go_roundw
      case rel => exact ⟨k + 1, by omega, by go_num, by rw [HSN.out]; exact HO5.out, (HBL.out.alloc hsz _).grown HG5.out (by rw [World.size_alloc]; omega) (fun j hj => (HO.out.lt j hj).1)⟩
      case measure => simp [intOf]; omega
    · obtain rfl : k = l.length := by omega
      go_wp2
      go_ret
      have h1 := HO.out
      rw [List.take_length] at h1
      exact ⟨⟨_, rfl, h1⟩, HBL.out⟩


theorem own_row {base e : Nat} {w : World} {u : Value} {xs : List Value} {n : Nat} (h : w.ownsRow base e 1 u n xs) (hn : 0 < n) : ∃ g cap, u = .slice (some ⟨g, 0, none⟩) n cap ∧ n ≤ cap ∧ cap ≤ maxLen ∧ base ≤ g ∧ g < w.heap.size ∧ (∀ j (hj : j < xs.length), w.cell? ⟨g, j, none⟩ = some xs[j]) ∧ ∀ j, w.frozen? ⟨g, j, none⟩ = false := by
  have h1 := h
  obtain ⟨hl, h3⟩ := h
  rcases h3 with ⟨rfl, h0⟩ | ⟨g, cap, cur, rfl, hb, hg, hnc, hcm, hcs, ht⟩
  · omega
  · exact ⟨g, cap, rfl, hnc, hcm, hb, (h1.lt g rfl).2, fun j hj => by rw [h1.cellAt j (by omega), List.getElem?_eq_getElem hj], fun j => h1.frozenAt j⟩
set_option maxRecDepth 100000 in
set_option maxHeartbeats 2000000 in
theorem names39_any (l : List By) (v : Value) (R : Nat → Prop) (w : World) (hv : Strs R w v l) (hR : ∀ i, R i → i < w.heap.size) (hl : l.length ≤ 10) (hs : ∀ s ∈ l, s.length ≤ 40) :
    Calls Tryd.prog 27 #[v] w fun e w' => (∃ u, e = .returned u ∧ Strs (fun i => w.heap.size ≤ i ∧ i < w'.heap.size) w' u l) ∧ Below w.heap.size w w' := by
  have HCP := hid (copyrow_any l v R w hv hR (by omega))
  obtain ⟨p, c, rfl, g1, g2, g3, hr⟩ := hv.op
  have HSS := hid hs
  obtain ⟨n, hn⟩ : ∃ n, l.length = n := ⟨_, rfl⟩
  rw [hn] at HCP g1 hl ⊢
  have HN := hid hn
  have hmin : min (n : Int) 10 = (n : Int) := by omega
  clear hv hR hr hs hn
  go_enter Tryd.func27, Tryd.ntmps27
  go_wp2_with (go_at_call 30; (with_reducible refine HCP.out.mono ?_); rintro e w1 ⟨⟨u1, rfl, ho1⟩, hb1⟩; have HO1 := hid ho1; have HB1 := hid hb1; clear ho1 hb1)
  obtain ⟨p1, c1, hu1⟩ := owns_sliceL HO1.out
  subst hu1
  go_loopw [3] (fun iv wr => ∃ k : Nat, k ≤ n ∧ iv = .int .i64 (k : Int) ∧ wr.ownsRow w.heap.size 9 1 (.slice p1 n c1) n (l.map sV) ∧ Below w.heap.size w wr) (fun iv _ => n - (intOf iv).toNat)
  case atStart => exact ⟨0, Nat.zero_le _, rfl, HO1.out, HB1.out⟩
  case round =>
    obtain ⟨k, hk, rfl, ho, hb⟩ := hrel
    obtain ⟨wo, rfl⟩ : ∃ wo : World, wo = wr := ⟨_, rfl⟩
    have HO := hid ho; have HB := hid hb
    clear hb
    by_cases hlt : k < n
    · have t1 : decide ((k : Int) < (n : Int)) = true := decide_eq_true (by omega)
      obtain ⟨g, cap, he, hcap, hcm, hbg, hgs, hcell, hfr⟩ := own_row ho (by omega)
      injection he with e1 _ e3
      subst e1 e3
      have hkl : k < (l.map sV).length := by rw [List.length_map, HN.out]; exact hlt
      have hck := hcell k hkl
      rw [List.getElem_map] at hck
      have hxl := HSS.out _ (List.getElem_mem (show k < l.length by rw [HN.out]; exact hlt))
      have HSET := hid (show (l.map sV).set k (sV (l[k]'(by rw [HN.out]; exact hlt))) = l.map sV from by
        rw [← List.getElem_map (f := sV) (h := hkl)]; exact List.set_getElem_self hkl)
      generalize l[k]'_ = x at *
      have zx : (⟨x.toArray⟩ : ByteArray).size = x.length := by show x.toArray.size = _; simp
      have hm40 : min (x.length : Int) 40 = (x.length : Int) := by omega
      have hex : (⟨x.toArray⟩ : ByteArray).extract 0 x.length = ⟨x.toArray⟩ := by apply ByteArray.ext; rw [ByteArray.data_extract]; apply Array.ext'; simp
      have hfd : wo.drew.frozen? ⟨g, k, none⟩ = false := hfr k
      have hS : (fun W : World => W.cell? ⟨g, k, none⟩ = some (.string ⟨x.toArray⟩)) wo.drew := hck
      have HBd := hid (show Below w.heap.size w wo.drew from HB.out.drew)
      have HOd := hid (show wo.drew.ownsRow w.heap.size 9 1 (.slice (some ⟨g, 0, none⟩) n c1) n (l.map sV) from ho.drew)
      clear hcell hfr hck ho
      go_upto_region 5 with fail
      have hFa := fT
      refine rgN (fun W : World => W.cell? ⟨g, k, none⟩ = some (.string ⟨x.toArray⟩)) 14 (by kernel_rfl) ?_
      simp only [List.size_toArray, List.length_cons, List.length_nil, Nat.reduceAdd]
      generalize wo.drew = wd at *
      iterate 14 (refine wpHJ_nx (v := ?_) 15 rfl rfl (by kernel_rfl) nE hS ?_ ?_; rotate_left; (focus refine Or.inl ⟨by rfl, ?_⟩; rintro w' s0; (try go_simp); try rfl); simp only [Act.put, actP, actQ])
      refine wpHJ_only 14 (by kernel_rfl) rfl (fun K hK => ?_)
      have cc1 : wd.cell? ⟨g, k, none⟩ = some (.string ⟨x.toArray⟩) := hS
      have ff1 : wd.frozen? ⟨g, k, none⟩ = false := hfd
      go_simp
      refine hK _ _ (.inl rfl) ?_
      clear hK K
      refine wpHJ_done (by kernel_rfl) ?_ _
      simp only [onlyN, Exit.then]
      clear hFa
      obtain ⟨w6, hw6⟩ : ∃ W, wd.setCell ⟨g, k, none⟩ (.string ⟨x.toArray⟩) = W := ⟨_, rfl⟩
      have HB6 := hid (show Below w.heap.size w w6 from by rw [← hw6]; exact HBd.out.setCell (p := ⟨g, k, none⟩) hbg _)
      have HO6 := hid (show w6.ownsRow w.heap.size 9 1 (.slice (some ⟨g, 0, none⟩) n c1) n (l.map sV) from by
        have h := (HOd.out.stored k (sV x)).1
        rw [HSET.out] at h
        rw [← hw6]; exact h)
      rw [hw6]
      clear hw6 cc1 ff1 hS
      go_wp2_with fail
      go_roundw
      case rel => exact ⟨k + 1, by omega, by go_num, HO6.out, HB6.out⟩
      case measure => simp [intOf]; omega
    · obtain rfl : k = n := by omega
      have t1 : decide ((k : Int) < (k : Int)) = false := decide_eq_false (by omega)
      clear ho
      go_wp2_with fail
      go_ret
      have h1 := HO.out
      exact ⟨⟨_, rfl, Sl.of_owns h1 (by omega) fun j hj => ⟨(h1.lt j hj).1, (h1.lt j hj).2⟩⟩, HB.out⟩

end Go.Proofs.YtehjfmbnebeioaaDoor
