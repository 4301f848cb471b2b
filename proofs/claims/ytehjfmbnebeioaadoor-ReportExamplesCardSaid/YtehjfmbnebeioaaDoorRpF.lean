/-
  The walks of law 39's Few and its closure.
-/
import Derived.Test.YtehjfmbnebeioaaDoorRpC
import Derived.Laws.OwnMore
namespace Go.Proofs.YtehjfmbnebeioaaDoor
set_option linter.unusedSimpArgs false
set_option linter.unusedVariables false
open Go.RowKit Go.Shelf
attribute [local go_sem] Oper.semAt_some

def cutL (l : List (List Nat)) : List (List Nat) := (l.take 10).map (·.take 20)
theorem NOwn.row {base : Nat} {w : World} {u : Value} {vs : List Value} {l : List (List Nat)} (h : NOwn base w u vs l) (hn : 0 < l.length) :
    ∃ g cap, u = .slice (some ⟨g, 0, none⟩) l.length cap ∧ l.length ≤ cap ∧ cap ≤ maxLen ∧ base ≤ g ∧ g < w.heap.size ∧ (∀ j (hj : j < vs.length), w.cell? ⟨g, j, none⟩ = some vs[j]) ∧ ∀ j, w.frozen? ⟨g, j, none⟩ = false := by
  obtain ⟨h1, h2, _, _⟩ := h
  have h1' := h1
  obtain ⟨hl, h3⟩ := h1
  rcases h3 with ⟨rfl, h0⟩ | ⟨g, cap, cur, rfl, hb, hg, hnc, hcm, hcs, ht⟩
  · omega
  · exact ⟨g, cap, rfl, hnc, hcm, hb, (h1'.lt g rfl).2, fun j hj => by rw [h1'.cellAt j (by omega), List.getElem?_eq_getElem hj], fun j => h1'.frozenAt j⟩
theorem NOwn.set {base g cap : Nat} {w : World} {vs : List Value} {l : List (List Nat)} (h : NOwn base w (.slice (some ⟨g, 0, none⟩) l.length cap) vs l) (i : Nat) (hi : i < l.length) (x : Value) (y : List Nat) (hx : Nums (fun j => base ≤ j ∧ j < w.heap.size ∧ g ≠ j) w x y) :
    NOwn base (w.setCell ⟨g, i, none⟩ x) (.slice (some ⟨g, 0, none⟩) l.length cap) (vs.set i x) (l.set i y) := by
  obtain ⟨h1, h2, h3, h5⟩ := h
  obtain ⟨hs, hg⟩ := h1.stored i x
  have hob : (Value.slice (some ⟨g, 0, none⟩) l.length cap).ownBlock = some g := rfl
  have hk : ∀ (z : Value) (q : List Nat), Nums (fun j => base ≤ j ∧ j < w.heap.size ∧ g ≠ j) w z q → Nums (fun j => base ≤ j ∧ j < (w.setCell ⟨g, i, none⟩ x).heap.size ∧ (Value.slice (some ⟨g, 0, none⟩) l.length cap).ownBlock ≠ some j) (w.setCell ⟨g, i, none⟩ x) z q := fun z q hz =>
    hz.keep fun j hj => ⟨⟨hj.1, by rw [World.size_setCell]; exact hj.2.1, by rw [hob]; intro e; injection e with e; exact hj.2.2 e⟩, Below.heap_setCell _ _ _ _ (fun e => hj.2.2 e.symm)⟩
  refine ⟨by rw [List.length_set]; exact hs, by rw [List.length_set, List.length_set]; exact h2, fun z hz => ?_, fun j hj hj' => ?_⟩
  · rcases List.mem_or_eq_of_mem_set hz with hz | rfl
    · exact h3 z hz
    · exact nums_oneC hx
  · rw [List.length_set] at hj
    by_cases hij : i = j
    · subst hij
      rw [List.getElem_set_self, List.getElem_set_self]
      exact hk _ _ hx
    · rw [List.getElem_set_ne hij, List.getElem_set_ne hij]
      refine hk _ _ ((h5 j hj (by omega)).weaken ?_)
      intro q hq
      exact ⟨hq.1, hq.2.1, fun e => hq.2.2 (by rw [hob, e])⟩
theorem NOwn.nll {base : Nat} {w : World} {u : Value} {vs : List Value} {l : List (List Nat)} (h : NOwn base w u vs l) (hl : l.length ≤ 1000000) : NLL (fun i => base ≤ i ∧ i < w.heap.size) w u l :=
  ⟨vs, Sl.of_owns h.1 (by omega) fun j hj => ⟨(h.1.lt j hj).1, (h.1.lt j hj).2⟩, h.2.1, fun i hi hi' => (h.2.2.2 i hi hi').weaken fun j hj => ⟨hj.1, hj.2.1⟩⟩
theorem Nums.weaken {R R' : Nat → Prop} {w : World} {v : Value} {xs : List Nat} (h : Nums R w v xs) (hf : ∀ k, R k → R' k) : Nums R' w v xs := Sl.weaken h hf
theorem NOwn.drew {base : Nat} {w : World} {u : Value} {vs : List Value} {l : List (List Nat)} (h : NOwn base w u vs l) : NOwn base w.drew u vs l := ⟨h.1.drew, h.2.1, h.2.2.1, fun i hi hi' => (h.2.2.2 i hi hi').keep fun k hk => ⟨hk, rfl⟩⟩
theorem NLL.takeN {R : Nat → Prop} {w : World} {p : Option Addr} {n c : Nat} {l : List (List Nat)} (h : NLL R w (.slice p n c) l) (m : Nat) (hm : m ≤ l.length) : NLL R w (.slice p m c) (l.take m) := by
  obtain ⟨vs, ⟨p0, c0, e, h1, h2, h3, hr⟩, hl, hx⟩ := h
  injection e with e1 e2 e3
  subst e1 e2 e3
  refine ⟨vs.take m, ⟨p, c, by rw [List.length_take, Nat.min_eq_left (by omega)], by rw [List.length_take]; omega, h2, by rw [List.length_take]; omega, ?_⟩, by rw [List.length_take, List.length_take]; omega, fun i hi hi' => ?_⟩
  · rcases hr with rfl | ⟨b, off, hp, hR, hc⟩
    · exact .inl (by simp)
    · by_cases h0 : m = 0
      · subst h0; exact .inl rfl
      · exact .inr ⟨b, off, hp, hR, fun j hj => by rw [List.length_take] at hj; rw [hc j (by omega), List.getElem_take]⟩
  · rw [List.getElem_take, List.getElem_take]; exact hx i _ _
theorem Nums.takeN {R : Nat → Prop} {w : World} {p : Option Addr} {n c : Nat} {l : List Nat} (h : Nums R w (.slice p n c) l) (m : Nat) (hm : m ≤ l.length) : Nums R w (.slice p m c) (l.take m) := by
  obtain ⟨p0, c0, e, h1, h2, h3, hr⟩ := h.op
  injection e with e1 e2 e3
  subst e1 e3
  refine ⟨p, c, by rw [List.length_map, List.length_take, Nat.min_eq_left (by omega)], by rw [List.length_map, List.length_take]; omega, h2, by rw [List.length_map, List.length_take]; omega, ?_⟩
  rcases hr with hr | ⟨b, off, hp, hR, hc⟩
  · have : l = [] := by simpa using hr
    subst this; exact .inl (by simp)
  · by_cases h0 : m = 0
    · subst h0; exact .inl rfl
    · refine .inr ⟨b, off, hp, hR, fun j hj => ?_⟩
      rw [List.length_map, List.length_take] at hj
      rw [hc j (by rw [List.length_map]; omega)]
      simp
/-- The rows after k rounds. -/
def cutAt (l : List (List Nat)) (k : Nat) : List (List Nat) := (l.take k).map (·.take 20) ++ l.drop k
theorem cutAt_len (l : List (List Nat)) (k : Nat) : (cutAt l k).length = l.length := by unfold cutAt; rw [List.length_append, List.length_map, List.length_take, List.length_drop]; omega
theorem cutAt_get (l : List (List Nat)) (k : Nat) (h : k < l.length) : (cutAt l k)[k]'(by rw [cutAt_len]; exact h) = l[k] := by
  unfold cutAt
  rw [List.getElem_append_right (by rw [List.length_map, List.length_take]; omega)]
  simp only [List.length_map, List.length_take, List.getElem_drop]
  congr 1; omega
theorem cutAt_succ (l : List (List Nat)) (k : Nat) (h : k < l.length) : (cutAt l k).set k (l[k].take 20) = cutAt l (k + 1) := by
  unfold cutAt
  have hm : ((l.take k).map (·.take 20)).length = k := by rw [List.length_map, List.length_take]; omega
  have e : l.take (k + 1) = l.take k ++ [l[k]] := by rw [List.take_add_one, List.getElem?_eq_getElem h]; rfl
  rw [List.set_append_right _ _ (by omega), hm, Nat.sub_self, List.drop_eq_getElem_cons h, List.set_cons_zero, e, List.map_append, List.append_assoc]
  rfl
theorem cutAt_zero (l : List (List Nat)) : cutAt l 0 = l := by simp [cutAt]
theorem cutAt_full (l : List (List Nat)) : cutAt l l.length = l.map (·.take 20) := by simp [cutAt]

set_option maxRecDepth 100000 in
set_option maxHeartbeats 2000000 in
theorem cutin_any (l : List (List Nat)) (v : Value) (R : Nat → Prop) (w : World) (hv : NLL R w v l) (hR : ∀ i, R i → i < w.heap.size) (hl2 : ∀ x ∈ l, x.length ≤ 17592186044415) :
    Calls Tryd.prog 40 #[v] w fun e w' => (∃ u vs, e = .returned u ∧ NOwn w.heap.size w' u vs (cutL l)) ∧ Below w.heap.size w w' := by
  have hv0 := hv
  obtain ⟨p, c, us, rfl, g1, g2, g3, hr, hul, hx⟩ := hv.op
  obtain ⟨n, hn⟩ : ∃ n, (l.take 10).length = n := ⟨_, rfl⟩
  have hn2 : n ≤ l.length ∧ n ≤ 10 := by rw [List.length_take] at hn; omega
  have hmin : min (l.length : Int) 10 = (n : Int) := by rw [List.length_take] at hn; omega
  have hvn := hv0.takeN n hn2.1
  have htk : l.take n = l.take 10 := by rw [← hn, List.length_take]; rcases Nat.le_total 10 l.length with h | h <;> simp [h, Nat.min_eq_left, Nat.min_eq_right, List.take_of_length_le]
  rw [htk] at hvn
  have HCI := hid (copyinputs_any (l.take 10) (.slice p n c) R w hvn hR (by omega) (fun x hx => hl2 x (List.mem_of_mem_take hx)))
  have HE := hid (show cutL l = (l.take 10).map (·.take 20) from rfl)
  have HNL := hid hn
  have hnl : n ≤ l.length := hn2.1
  have hn10 : n ≤ 10 := hn2.2
  generalize cutL l = res at *
  generalize l.take 10 = L at *
  have hnc : n ≤ c := by omega
  clear hv hv0 hvn hr hul hx hR hl2 hn hn2 htk
  generalize l.length = q at *
  go_enter Tryd.func40, Tryd.ntmps40
  go_wp2_with (go_at_call 41; refine HCI.out.mono ?_; rintro e w1 ⟨⟨u1, vs1, rfl, ho1⟩, hb1⟩)
  have hu1 : ∃ p1 c1, u1 = .slice p1 n c1 := by have := owns_sliceL ho1.1; rw [HNL.out] at this; exact this
  obtain ⟨p1, c1, rfl⟩ := hu1
  have HO1 := hid ho1; have HB1 := hid hb1
  have hov : L.length = vs1.length := ho1.2.1.symm
  have HOV := hid hov
  clear ho1 hb1 hov
  go_loopw [3] (fun iv wr => ∃ (k : Nat) (vs : List Value), k ≤ n ∧ iv = .int .i64 k ∧ NOwn w.heap.size wr (.slice p1 n c1) vs (cutAt L k) ∧ Below w.heap.size w wr) (fun iv _ => n - (intOf iv).toNat)
  case atStart => exact ⟨0, vs1, Nat.zero_le _, rfl, by rw [cutAt_zero]; exact HO1.out, HB1.out⟩
  case round =>
    obtain ⟨k, vs, hk, rfl, ho, hb⟩ := hrel
    obtain ⟨wo, rfl⟩ : ∃ wo : World, wo = wr := ⟨_, rfl⟩
    have HBL := hid hb
    clear hb
    by_cases hlt : k < n
    · obtain ⟨g, cap, he, hcap, hcm, hbg, hgs, hcell, hfr⟩ := ho.row (by rw [cutAt_len, HNL.out]; omega)
      rw [cutAt_len, HNL.out] at he hcap
      injection he with e1 _ e3
      subst e1 e3
      have hkL : k < L.length := by rw [HNL.out]; exact hlt
      have hkv : k < vs.length := by rw [ho.2.1, cutAt_len]; exact hkL
      have hrow := ho.2.2.2 k (by rw [cutAt_len]; exact hkL) hkv
      rw [cutAt_get L k hkL] at hrow
      have HSU := hid (cutAt_succ L k hkL)
      have hck := hcell k hkv
      generalize vs[k] = xv at *
      generalize L[k] = x at *
      obtain ⟨p5, c5, rfl, z1, z2, z3, _⟩ := hrow.op
      obtain ⟨m, hm⟩ : ∃ m, (x.take 20).length = m := ⟨_, rfl⟩
      have hm2 : m ≤ x.length ∧ m ≤ 20 := by rw [List.length_take] at hm; omega
      have hmin : min (x.length : Int) 20 = (m : Int) := by rw [List.length_take] at hm; omega
      have htk : x.take m = x.take 20 := by rw [← hm, List.length_take]; rcases Nat.le_total 20 x.length with h | h <;> simp [h, Nat.min_eq_left, Nat.min_eq_right, List.take_of_length_le]
      have hx1 := hrow.takeN m hm2.1
      rw [htk] at hx1
      have HX1 := hid hx1; have HO := hid ho
      have hmx : m ≤ x.length := hm2.1
      have hmc : m ≤ c5 := by omega
      have hfk := hfr k
      have hwt : wo.drew.cell? ⟨g, k, none⟩ = some (.slice p5 x.length c5) := hck
      clear hrow hcell hfr hx1 htk hm hm2 ho
      go_wp2_with fail
      have hS : (fun W' : World => W'.cell? ⟨g, k, none⟩ = some (.slice p5 x.length c5)) wo.drew := hck
      have hFa : ∀ f, Fence.wide.fn f := fun _ => trivial
      refine (wpIn_wide (n := 9)).1 ?_
      refine wpIn_onlyN ?_
      refine wpIn_region_HJ (fun W' : World => W'.cell? ⟨g, k, none⟩ = some (.slice p5 x.length c5)) 14 (by kernel_rfl) ?_
      simp only [List.size_toArray, List.length_cons, List.length_nil, Nat.reduceAdd]
      refine wpHJ_pure (v := ?vf0) 0 hFa rfl (by kernel_rfl) (fun _ _ _ h => h.elim) (Or.inl ⟨by rfl, ?yf0⟩) (.inr hS) ?rf0
      case yf0 => (intro w' _; go_simp; try rfl)
      simp only [Act.put, List.getElem_toArray, List.getElem_cons_succ, List.getElem_cons_zero, List.setIfInBounds_toArray, List.set_cons_zero, List.set_cons_succ]
      refine wpHJ_pure (v := ?vf1) 1 hFa rfl (by kernel_rfl) (fun _ _ _ h => h.elim) (Or.inl ⟨by rfl, ?yf1⟩) (.inr hS) ?rf1
      case yf1 => (intro w' _; go_simp; try rfl)
      simp only [Act.put, List.getElem_toArray, List.getElem_cons_succ, List.getElem_cons_zero, List.setIfInBounds_toArray, List.set_cons_zero, List.set_cons_succ]
      refine wpHJ_pure (v := ?vf2) 2 hFa rfl (by kernel_rfl) (fun _ _ _ h => h.elim) (Or.inl ⟨by rfl, ?yf2⟩) (.inr hS) ?rf2
      case yf2 => (intro w' _; go_simp; try rfl)
      simp only [Act.put, List.getElem_toArray, List.getElem_cons_succ, List.getElem_cons_zero, List.setIfInBounds_toArray, List.set_cons_zero, List.set_cons_succ]
      refine wpHJ_pure (v := ?vf3) 3 hFa rfl (by kernel_rfl) (fun _ _ _ h => h.elim) (Or.inl ⟨by rfl, ?yf3⟩) (.inr hS) ?rf3
      case yf3 => (intro w' _; go_simp; try rfl)
      simp only [Act.put, List.getElem_toArray, List.getElem_cons_succ, List.getElem_cons_zero, List.setIfInBounds_toArray, List.set_cons_zero, List.set_cons_succ]
      refine wpHJ_pure (v := ?vf4) 4 hFa rfl (by kernel_rfl) (fun _ _ _ h => h.elim) (Or.inl ⟨by rfl, ?yf4⟩) (.inr hS) ?rf4
      case yf4 => (intro w' _; go_simp; try rfl)
      simp only [Act.put, List.getElem_toArray, List.getElem_cons_succ, List.getElem_cons_zero, List.setIfInBounds_toArray, List.set_cons_zero, List.set_cons_succ]
      refine wpHJ_take (v := ?vf5) 5 hFa rfl (by kernel_rfl) (fun _ _ _ h => h.elim) (Or.inl ⟨by rfl, ?yf5⟩) hS ?rf5
      case yf5 => (intro w' hS'; obtain s0 := hS'; go_simp; try rfl)
      simp only [Act.put, List.getElem_toArray, List.getElem_cons_succ, List.getElem_cons_zero, List.setIfInBounds_toArray, List.set_cons_zero, List.set_cons_succ]
      refine wpHJ_pure (v := ?vf6) 6 hFa rfl (by kernel_rfl) (fun _ _ _ h => h.elim) (Or.inl ⟨by rfl, ?yf6⟩) (.inr hS) ?rf6
      case yf6 => (intro w' _; go_simp; try rfl)
      simp only [Act.put, List.getElem_toArray, List.getElem_cons_succ, List.getElem_cons_zero, List.setIfInBounds_toArray, List.set_cons_zero, List.set_cons_succ]
      refine wpHJ_pure (v := ?vf7) 7 hFa rfl (by kernel_rfl) (fun _ _ _ h => h.elim) (Or.inl ⟨by rfl, ?yf7⟩) (.inr hS) ?rf7
      case yf7 => (intro w' _; go_simp; try rfl)
      simp only [Act.put, List.getElem_toArray, List.getElem_cons_succ, List.getElem_cons_zero, List.setIfInBounds_toArray, List.set_cons_zero, List.set_cons_succ]
      refine wpHJ_pure (v := ?vf8) 8 hFa rfl (by kernel_rfl) (fun _ _ _ h => h.elim) (Or.inl ⟨by rfl, ?yf8⟩) (.inr hS) ?rf8
      case yf8 => (intro w' _; go_simp; try rfl)
      simp only [Act.put, List.getElem_toArray, List.getElem_cons_succ, List.getElem_cons_zero, List.setIfInBounds_toArray, List.set_cons_zero, List.set_cons_succ]
      refine wpHJ_take (v := ?vf9) 9 hFa rfl (by kernel_rfl) (fun _ _ _ h => h.elim) (Or.inl ⟨by rfl, ?yf9⟩) hS ?rf9
      case yf9 => (intro w' hS'; obtain s0 := hS'; go_simp; try rfl)
      simp only [Act.put, List.getElem_toArray, List.getElem_cons_succ, List.getElem_cons_zero, List.setIfInBounds_toArray, List.set_cons_zero, List.set_cons_succ]
      refine wpHJ_pure (v := ?vf10) 10 hFa rfl (by kernel_rfl) (fun _ _ _ h => h.elim) (Or.inl ⟨by rfl, ?yf10⟩) (.inr hS) ?rf10
      case yf10 => (intro w' _; go_simp; try rfl)
      simp only [Act.put, List.getElem_toArray, List.getElem_cons_succ, List.getElem_cons_zero, List.setIfInBounds_toArray, List.set_cons_zero, List.set_cons_succ]
      refine wpHJ_pure (v := ?vf11) 11 hFa rfl (by kernel_rfl) (fun _ _ _ h => h.elim) (Or.inl ⟨by rfl, ?yf11⟩) (.inr hS) ?rf11
      case yf11 => (intro w' _; go_simp; try rfl)
      simp only [Act.put, List.getElem_toArray, List.getElem_cons_succ, List.getElem_cons_zero, List.setIfInBounds_toArray, List.set_cons_zero, List.set_cons_succ]
      refine wpHJ_pure (v := ?vf12) 12 hFa rfl (by kernel_rfl) (fun _ _ _ h => h.elim) (Or.inl ⟨by rfl, ?yf12⟩) (.inr hS) ?rf12
      case yf12 => (intro w' _; go_simp; try rfl)
      simp only [Act.put, List.getElem_toArray, List.getElem_cons_succ, List.getElem_cons_zero, List.setIfInBounds_toArray, List.set_cons_zero, List.set_cons_succ]
      refine wpHJ_pure (v := ?vf13) 13 hFa rfl (by kernel_rfl) (fun _ _ _ h => h.elim) (Or.inl ⟨by rfl, ?yf13⟩) (.inr hS) ?rf13
      case yf13 => (intro w' _; go_simp; try rfl)
      simp only [Act.put, List.getElem_toArray, List.getElem_cons_succ, List.getElem_cons_zero, List.setIfInBounds_toArray, List.set_cons_zero, List.set_cons_succ]
      refine wpHJ_only 14 (by kernel_rfl) rfl ?_
      intro K hK
      go_simp
      refine hK _ _ (.inl rfl) ?_
      clear hK K
      refine wpHJ_done (by kernel_rfl) ?_ _
      simp only [onlyN, Exit.then]
      clear hFa
      go_wp2
      have HN : NOwn w.heap.size (wo.setCell ⟨g, k, none⟩ (.slice p5 m c5)).drew (.slice (some ⟨g, 0, none⟩) n c1) (vs.set k (.slice p5 m c5)) (cutAt L (k + 1)) := by
        have h0 := HO.out
        refine NOwn.drew ?_
        rw [← HSU.out]
        have hl0 : (cutAt L k).length = n := by rw [cutAt_len, HNL.out]
        have := NOwn.set (base := w.heap.size) (g := g) (cap := c1) (w := wo) (vs := vs) (l := cutAt L k) (by rw [hl0]; exact h0) k (by rw [hl0]; exact hlt) (.slice p5 m c5) (x.take 20) (HX1.out.keep fun j hj => ⟨⟨hj.1, hj.2.1, fun e => hj.2.2 (by rw [← e]; rfl)⟩, rfl⟩)
        rw [hl0] at this
        exact this
      have HN := hid HN
      go_roundw
      case rel => exact ⟨k + 1, _, by omega, by go_num, HN.out, (HBL.out.setCell (by exact hbg) _).drew⟩
      case measure => simp [intOf]; omega
    · obtain rfl : k = n := by omega
      have HO := hid ho
      clear ho
      go_wp2
      go_ret
      have h1 := HO.out
      rw [← HNL.out, cutAt_full, ← HE.out, HNL.out] at h1
      exact ⟨⟨_, vs, rfl, h1⟩, HBL.out⟩

end Go.Proofs.YtehjfmbnebeioaaDoor
