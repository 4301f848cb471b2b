/-
  The walks of package kit's CopyNums and CopyStrings.
-/
import Derived.Test.YtehjfmbnebeioaaDoorRpA
namespace Go.Proofs.YtehjfmbnebeioaaDoor
set_option linter.unusedSimpArgs false
set_option linter.unusedVariables false
open Go.RowKit Go.Shelf
attribute [local go_sem] Oper.semAt_some

theorem info_u64C : (Tryd.prog.info? 37).map (fun i => (i.zero, i.size, i.bytes)) = some (some (.int .u64 0), 1, 8) := by kernel_rfl
theorem info_strC : (Tryd.prog.info? 9).map (fun i => (i.zero, i.size, i.bytes)) = some (some (.string ⟨#[]⟩), 1, 16) := by kernel_rfl

set_option maxRecDepth 100000 in
set_option maxHeartbeats 2000000 in
theorem copynums_any (l : List Nat) (v : Value) (R : Nat → Prop) (w : World) (hv : Nums R w v l) (hR : ∀ i, R i → i < w.heap.size) (hl : l.length ≤ 17592186044415) :
    Calls Tryd.prog 51 #[v] w fun e w' => (∃ u, e = .returned u ∧ Nums (fun i => w.heap.size ≤ i ∧ i < w'.heap.size) w' u l) ∧ Below w.heap.size w w' := by
  obtain ⟨p, c, rfl, g1, g2, g3, hr⟩ := hv.op
  have HR := hid hr; have HRR := hid hR
  clear hv hr hR
  go_enter Tryd.func51, Tryd.ntmps51
  go_wp2
  go_loopw [3, 4] (fun ov iv wr => ∃ k : Nat, k ≤ l.length ∧ iv = .int .i64 k ∧ wr.ownsRow w.heap.size 37 1 ov k ((l.take k).map nV) ∧ Below w.heap.size w wr) (fun _ iv _ => l.length - (intOf iv).toNat)
  case atStart => exact ⟨0, Nat.zero_le _, rfl, World.ownsRow_nil _ _ _ _, Below.refl _ _⟩
  case round =>
    obtain ⟨k, hk, rfl, ho, hb⟩ := hrel
    obtain ⟨wo, rfl⟩ : ∃ wo : World, wo = wr := ⟨_, rfl⟩
    obtain ⟨po, co, rfl⟩ := owns_sliceL ho
    have HO := hid ho; have HBL := hid hb
    clear ho hb
    by_cases hlt : k < l.length
    · obtain ⟨b0, o0, rfl, hR0, hcc⟩ := HR.out.atN k hlt
      have hcell := (HBL.out.cell (p := ⟨b0, o0 + k, none⟩) (HRR.out _ hR0)).trans (hcc k hlt)
      have HSN := hid (show (l.take (k + 1)).map nV = (l.take k).map nV ++ [nV l[k]] from by rw [List.take_add_one, List.getElem?_eq_getElem hlt, List.map_append]; rfl)
      clear hcc
      generalize l[k] = x at *
      have hsz := HBL.out.size
      go_wp2_with (at_builtin; refine wpList_app _ rfl (.tmp 11) (.tmp 16) 36 rfl w.heap.size 37 (.int .u64 0) 8 Tryd.underlying36 info_u64C rfl _ k _ rfl (HO.out.alloc _) (some ⟨wo.heap.size, 0, none⟩) 1 1 [nV x] rfl rfl (RowR.lit (R := fun _ => True) wo [nV x] 37 trivial) (by simp [nV, Value.oneCell']) (by omega) (by unfold maxLen; omega) (by rw [World.size_alloc]; omega) ?_; intro v5 w5 ho5 hg5 _; have HO5 := hid ho5; have HG5 := hid hg5; clear ho5 hg5)
      go_roundw
      case rel => exact ⟨k + 1, by omega, by go_num, by rw [HSN.out]; exact HO5.out, (HBL.out.alloc hsz _).grown HG5.out (by rw [World.size_alloc]; omega) (fun j hj => (HO.out.lt j hj).1)⟩
      case measure => simp [intOf]; omega
    · obtain rfl : k = l.length := by omega
      go_wp2
      go_ret
      have h1 := HO.out
      rw [List.take_length] at h1
      exact ⟨⟨_, rfl, Sl.of_owns h1 (by omega) fun j hj => ⟨(h1.lt j hj).1, (h1.lt j hj).2⟩⟩, HBL.out⟩

set_option maxRecDepth 100000 in
set_option maxHeartbeats 2000000 in
theorem copystrings_any (l : List By) (v : Value) (R : Nat → Prop) (w : World) (hv : Strs R w v l) (hR : ∀ i, R i → i < w.heap.size) (hl : l.length ≤ 8796093022207) :
    Calls Tryd.prog 30 #[v] w fun e w' => (∃ u, e = .returned u ∧ Strs (fun i => w.heap.size ≤ i ∧ i < w'.heap.size) w' u l) ∧ Below w.heap.size w w' := by
  obtain ⟨p, c, rfl, g1, g2, g3, hr⟩ := hv.op
  have HR := hid hr; have HRR := hid hR
  clear hv hr hR
  go_enter Tryd.func30, Tryd.ntmps30
  go_wp2
  go_loopw [3, 4] (fun ov iv wr => ∃ k : Nat, k ≤ l.length ∧ iv = .int .i64 k ∧ wr.ownsRow w.heap.size 9 1 ov k ((l.take k).map sV) ∧ Below w.heap.size w wr) (fun _ iv _ => l.length - (intOf iv).toNat)
  case atStart => exact ⟨0, Nat.zero_le _, rfl, World.ownsRow_nil _ _ _ _, Below.refl _ _⟩
  case round =>
    obtain ⟨k, hk, rfl, ho, hb⟩ := hrel
    obtain ⟨wo, rfl⟩ : ∃ wo : World, wo = wr := ⟨_, rfl⟩
    obtain ⟨po, co, rfl⟩ := owns_sliceL ho
    have HO := hid ho; have HBL := hid hb
    clear ho hb
    by_cases hlt : k < l.length
    · obtain ⟨b0, o0, rfl, hR0, hcc⟩ := HR.out.atS k hlt
      have hcell := (HBL.out.cell (p := ⟨b0, o0 + k, none⟩) (HRR.out _ hR0)).trans (hcc k hlt)
      have HSN := hid (show (l.take (k + 1)).map sV = (l.take k).map sV ++ [sV l[k]] from by rw [List.take_add_one, List.getElem?_eq_getElem hlt, List.map_append]; rfl)
      clear hcc
      generalize l[k] = x at *
      have hsz := HBL.out.size
      go_wp2_with (at_builtin; refine wpList_app _ rfl (.tmp 11) (.tmp 16) 27 rfl w.heap.size 9 (.string ⟨#[]⟩) 16 Tryd.underlying27 info_strC rfl _ k _ rfl (HO.out.alloc _) (some ⟨wo.heap.size, 0, none⟩) 1 1 [sV x] rfl rfl (RowR.lit (R := fun _ => True) wo [sV x] 9 trivial) (by simp [sV, Value.oneCell']) (by omega) (by unfold maxLen; omega) (by rw [World.size_alloc]; omega) ?_; intro v5 w5 ho5 hg5 _; have HO5 := hid ho5; have HG5 := hid hg5; clear ho5 hg5)
      go_roundw
      case rel => exact ⟨k + 1, by omega, by go_num, by rw [HSN.out]; exact HO5.out, (HBL.out.alloc hsz _).grown HG5.out (by rw [World.size_alloc]; omega) (fun j hj => (HO.out.lt j hj).1)⟩
      case measure => simp [intOf]; omega
    · obtain rfl : k = l.length := by omega
      go_wp2
      go_ret
      have h1 := HO.out
      rw [List.take_length] at h1
      exact ⟨⟨_, rfl, Sl.of_owns h1 (by omega) fun j hj => ⟨(h1.lt j hj).1, (h1.lt j hj).2⟩⟩, HBL.out⟩

/-- Rows of numbers that a call has made for itself: the outer row is owned, the inner ones lie elsewhere. -/
def NOwn (base : Nat) (w : World) (u : Value) (vs : List Value) (l : List (List Nat)) : Prop := w.ownsRow base 36 1 u l.length vs ∧ vs.length = l.length ∧ (∀ x ∈ vs, x.oneCell' = true) ∧ ∀ i (h : i < l.length) (h' : i < vs.length), Nums (fun j => base ≤ j ∧ j < w.heap.size ∧ u.ownBlock ≠ some j) w vs[i] l[i]
theorem info_nlC : (Tryd.prog.info? 36).map (fun i => (i.zero, i.size, i.bytes)) = some (some (.slice none 0 0), 1, 24) := by kernel_rfl
theorem nums_oneC {R : Nat → Prop} {w : World} {v : Value} {l : List Nat} (h : Nums R w v l) : v.oneCell' = true := by obtain ⟨p, c, rfl, _⟩ := h.op; rfl
theorem NOwn.app {base : Nat} {w w4 w5 : World} {u v5 x : Value} {vs : List Value} {l : List (List Nat)} {y : List Nat} (h : NOwn base w u vs l) (h4 : Below w.heap.size w w4) (hx : Nums (fun j => w.heap.size ≤ j ∧ j < w4.heap.size) w4 x y) (W : World) (hW : Below w4.heap.size w4 W) (ho : w5.ownsRow base 36 1 v5 (l.length + 1) (vs ++ [x])) (hg : W.grownBy w5 u.ownBlock) (hv : v5.ownBlock = u.ownBlock ∨ v5.ownBlock = some W.heap.size) (hb : base ≤ w.heap.size) : NOwn base w5 v5 (vs ++ [x]) (l ++ [y]) := by
  obtain ⟨h1, h2, h3, h5⟩ := h
  have hs4 := h4.size
  have hsW := hW.size
  have hs5 := hg.size
  refine ⟨by rw [List.length_append]; exact ho, by simp [h2], fun z hz => ?_, fun i hi hi' => ?_⟩
  · rcases List.mem_append.1 hz with hz | hz
    · exact h3 z hz
    · rw [List.mem_singleton] at hz; subst hz; exact nums_oneC hx
  · have hown : ∀ j, u.ownBlock = some j → j < w.heap.size := fun j hj => (h1.lt j hj).2
    rcases Nat.lt_or_ge i l.length with hlt | hge
    · rw [List.getElem_append_left (by omega), List.getElem_append_left hlt]
      refine (h5 i hlt (by omega)).keep fun j hj => ⟨⟨hj.1, by omega, ?_⟩, ?_⟩
      · rcases hv with e | e
        · rw [e]; exact hj.2.2
        · rw [e]; intro e2; injection e2 with e2; omega
      · exact (hg.block j (by omega) (Ne.symm hj.2.2)).trans ((hW.block j (by omega)).trans (h4.block j hj.2.1))
    · have : i = l.length := by rw [List.length_append] at hi; simp at hi; omega
      subst this
      rw [List.getElem_append_right (by omega), List.getElem_append_right (by omega)]
      simp only [h2, Nat.sub_self, List.getElem_cons_zero]
      have hne : ∀ j, w.heap.size ≤ j → u.ownBlock ≠ some j := fun j hj e => by have := hown j e; omega
      refine hx.keep fun j hj => ⟨⟨by omega, by omega, ?_⟩, (hg.block j (by omega) (Ne.symm (hne j hj.1))).trans (hW.block j hj.2)⟩
      rcases hv with e | e
      · rw [e]; exact hne j hj.1
      · rw [e]; intro e2; injection e2 with e2; omega

set_option maxRecDepth 100000 in
set_option maxHeartbeats 2000000 in
theorem copyinputs_any (l : List (List Nat)) (v : Value) (R : Nat → Prop) (w : World) (hv : NLL R w v l) (hR : ∀ i, R i → i < w.heap.size) (hl : l.length ≤ 1000000) (hl2 : ∀ x ∈ l, x.length ≤ 17592186044415) :
    Calls Tryd.prog 41 #[v] w fun e w' => (∃ u vs, e = .returned u ∧ NOwn w.heap.size w' u vs l) ∧ Below w.heap.size w w' := by
  obtain ⟨p, c, us, rfl, g1, g2, g3, hr, hul, hx⟩ := hv.op
  have HR := hid hr; have HRR := hid hR; have HX := hid hx; have HL2 := hid hl2; have HUL := hid hul
  clear hv hr hR hx hl2 hul
  go_enter Tryd.func41, Tryd.ntmps41
  go_wp2
  go_loopw [3, 4] (fun ov iv wr => ∃ (k : Nat) (vs : List Value), k ≤ l.length ∧ iv = .int .i64 k ∧ NOwn w.heap.size wr ov vs (l.take k) ∧ Below w.heap.size w wr) (fun _ iv _ => l.length - (intOf iv).toNat)
  case atStart => exact ⟨0, [], Nat.zero_le _, rfl, ⟨World.ownsRow_nil _ _ _ _, rfl, fun x hx => (by cases hx), fun i h => absurd h (by simp)⟩, Below.refl _ _⟩
  case round =>
    obtain ⟨k, vs, hk, rfl, ho, hb⟩ := hrel
    obtain ⟨wo, rfl⟩ : ∃ wo : World, wo = wr := ⟨_, rfl⟩
    obtain ⟨po, co, hov⟩ := owns_sliceL ho.1
    have htk : (l.take k).length = k := by rw [List.length_take]; omega
    rw [htk] at hov
    subst hov
    have ho1 := ho.1
    rw [htk] at ho1
    have HO := hid ho; have HO1 := hid ho1; have HBL := hid hb; have HTK := hid htk
    clear ho hb htk ho1
    by_cases hlt : k < l.length
    · have hku : k < us.length := by rw [HUL.out]; exact hlt
      obtain ⟨b0, o0, rfl, hR0, hcc⟩ := HR.out.at k hku
      have hcell := (HBL.out.cell (p := ⟨b0, o0 + k, none⟩) (HRR.out _ hR0)).trans (hcc k hku)
      have hxk := HX.out k hlt hku
      have HCN := hid (copynums_any l[k] us[k] (fun i => i < w.heap.size) wo (hxk.keep fun i hi => ⟨HRR.out i hi, HBL.out.block i (HRR.out i hi)⟩) (fun i hi => by have := HBL.out.size; have hi : i < w.heap.size := hi; omega) (HL2.out _ (List.getElem_mem hlt)))
      have HSN := hid (show l.take (k + 1) = l.take k ++ [l[k]] from by rw [List.take_add_one, List.getElem?_eq_getElem hlt]; rfl)
      clear hcc hxk
      generalize l[k] = x at *
      generalize us[k] = u at *
      have hsz := HBL.out.size
      go_wp2_with (first
        | (go_at_call 51; refine HCN.out.mono ?_; rintro e w4 ⟨⟨u4, rfl, hu4⟩, hb4⟩; obtain ⟨p4, c4, rfl, _⟩ := hu4.op; have HU4 := hid hu4; have HB4 := hid hb4; have hs4 := HB4.out.size; clear hu4 hb4)
        | (at_builtin; refine wpList_app _ rfl (.tmp 11) (.tmp 17) 29 rfl w.heap.size 36 (.slice none 0 0) 24 Tryd.underlying29 info_nlC rfl _ k _ rfl ((owns_keepL HO1.out fun j hj => HB4.out.block j (HO1.out.lt j hj).2).alloc _) (some ⟨w4.heap.size, 0, none⟩) 1 1 [.slice p4 x.length c4] rfl rfl (RowR.lit (R := fun _ => True) w4 [.slice p4 x.length c4] 36 trivial) (by simp [nums_oneC HU4.out]) (by omega) (by unfold maxLen; omega) (by rw [World.size_alloc]; omega) ?_; intro v5 w5 ho5 hg5 hv5; have HO5 := hid ho5; have HG5 := hid hg5; have HV5 := hid hv5; clear ho5 hg5 hv5))
      have HN := hid (HO.out.app HB4.out HU4.out _ ((Below.refl _ _).alloc (Nat.le_refl _) _) (by rw [HTK.out]; exact HO5.out) HG5.out HV5.out hsz)
      go_roundw
      case rel => exact ⟨k + 1, vs ++ [.slice p4 x.length c4], by omega, by go_num, by rw [HSN.out]; exact HN.out, ((HBL.out.trans (HB4.out.mono hsz)).alloc (by omega) _).grown HG5.out (by rw [World.size_alloc]; omega) (fun j hj => (HO.out.1.lt j hj).1)⟩
      case measure => simp [intOf]; omega
    · obtain rfl : k = l.length := by omega
      go_wp2
      go_ret
      have h1 := HO.out
      rw [List.take_length] at h1
      exact ⟨⟨_, vs, rfl, h1⟩, HBL.out⟩

end Go.Proofs.YtehjfmbnebeioaaDoor
