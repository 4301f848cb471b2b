/-
  Package dimacs: the iterator over words.
-/
import Derived.Test.YtfllhhgnflpagaaDoorDmI
import Derived.Test.YtfllhhgnflpagaaDoorReg
namespace Go.Proofs.YtfllhhgnflpagaaDoor
set_option linter.unusedSimpArgs false
set_option linter.unusedVariables false
open Go.RowKit Go.Shelf
attribute [local go_sem] Oper.semAt_some

theorem digitsOf_eq {s : Bs} (h : ¬ s.head? = some 45) : digitsOf s = s := by
  unfold digitsOf
  split
  · simp at h
  · rfl
theorem numM_pos {s : Bs} {v : Int} (h : numM s = some v) (hs : ¬ s.head? = some 45) : 0 ≤ v := by
  unfold numM at h
  split at h
  · cases h
    rw [if_pos (digitsOf_eq hs)]
    unfold capI
    split <;> omega
  · cases h
theorem headM_left {l : List Bs} (h : (headM l).2.2 = 0) : 0 ≤ (headM l).2.1 := by
  revert h
  unfold headM
  split
  · split
    · rename_i v c hv hc
      split
      · simp
      · split
        · simp
        · split
          · simp
          · rename_i h1 _ _
            intro _
            exact numM_pos hc (fun e => h1 (.inr e))
    · simp
  · simp
theorem stepP_left {st st' : PS} {l : List Bs} (h : stepP st l = .ok st') : 0 ≤ st'.left := by
  unfold stepP at h
  split at h
  · split at h
    · cases h; exact headM_left (by assumption)
    · cases h
  · split at h
    · cases h
    · split at h
      · cases h
      · split at h
        · cases h
        · split at h
          · cases h; show 0 ≤ st.left - 1; omega
          · split at h
            · cases h
            · cases h; show 0 ≤ st.left; omega

theorem runL_cons (n : Nat) (st : PS) (hd : Bool) (x : Bs) (r : List Bs) : runL n st hd (x :: r) = match stepL st hd (fields x) with | .error e => .error (n, e) | .ok (st', hd') => runL (n + 1) st' hd' r := rfl
theorem run_com {n : Nat} {st : PS} {hd : Bool} {x : Bs} {r : List Bs} (h : fields x = [] ∨ (fields x).head? = some [99]) : runL n st hd (x :: r) = runL (n + 1) st hd r := by
  rw [runL_cons]; unfold stepL; rw [if_pos h]
theorem run_head {n : Nat} {st : PS} {x : Bs} {r : List Bs} (h : ¬ (fields x = [] ∨ (fields x).head? = some [99])) : runL n st true (x :: r) = match stepP st (fields x) with | .error e => .error (n, e) | .ok st' => runL (n + 1) st' false r := by
  rw [runL_cons]; unfold stepL; rw [if_neg h, if_pos rfl]
  cases stepP st (fields x) <;> rfl
theorem run_words {n : Nat} {st : PS} {x : Bs} {r : List Bs} (h : ¬ (fields x = [] ∨ (fields x).head? = some [99])) : runL n st false (x :: r) = match stepW st (fields x) with | .error e => .error (n, e) | .ok st' => runL (n + 1) st' false r := by
  rw [runL_cons]; unfold stepL; rw [if_neg h, if_neg (by simp)]
  cases stepW st (fields x) <;> rfl
theorem stepW_at {st : PS} {L : List Bs} {i : Nat} (h : i < L.length) : stepW st (L.drop i) = match stepP st [L[i]] with | .error e => .error e | .ok st' => stepW st' (L.drop (i + 1)) := by
  rw [List.drop_eq_getElem_cons h]; rfl

theorem round_lvl {n m l l' : Nat} {P : Program} {f : FuncId} {tmps : Array Value} {assign body : Code} {w : World} {R : Ending → World → Prop} (h : RoundIn Fence.wide n P l f tmps assign body w R) : RoundIn (Fence.wide.inRound l') m P l f tmps assign body w R :=
  ⟨trivial, fun c cs _ => h.2 c cs (room_wide _)⟩

/-- How words ends. -/
def WEnd (I : PS → SP) (Ix : Nat → Int → SP) (r : Except (Nat × Int) (PS × Bool)) (F : Nat → Prop) (W : World) : Prop :=
  match r with
  | .ok (st, _) => I st F W
  | .error (n, er) => Ix n er F W
/-- One yield. -/
def YEnd (I : PS → SP) (Ix : Nat → Int → SP) (n : Nat) (r : Except Int PS) (F : Nat → Prop) (e : Ending) (W : World) : Prop :=
  match r with
  | .ok st => e = .returned (.bool true) ∧ I st F W
  | .error er => e = .returned (.bool false) ∧ Ix n er F W
/-- What stands between two lines. -/
def WI (I : PS → SP) (R0 : Except (Nat × Int) (PS × Bool)) (l yb hc n : Nat) (t : Bs) : SP := fun F W =>
  ∃ (st : PS) (hd : Bool), runL n st hd (linesM t) = R0 ∧ (hd = false → 0 ≤ st.left) ∧ (hd = true → st.left < 0) ∧ I st (fun k => F k ∨ k = yb ∨ k = hc) W ∧ ¬ F yb ∧ ¬ F hc ∧
    W.cell? ⟨yb, 0, none⟩ = some (.func (.yield l) #[] #[]) ∧ W.cell? ⟨hc, 0, none⟩ = some (.bool hd) ∧ W.frozen? ⟨hc, 0, none⟩ = false
def WX (Ix : Nat → Int → SP) (R0 : Except (Nat × Int) (PS × Bool)) : SP := fun F W => ∃ n er, R0 = .error (n, er) ∧ Ix n er F W
theorem clo_WI {I : PS → SP} (hI : ∀ st, Clo (I st)) (R0 : Except (Nat × Int) (PS × Bool)) (l yb hc n : Nat) (t : Bs) : Clo (WI I R0 l yb hc n t) := by
  rintro F F' W W' ⟨st, hd, h1, h2, h2', hi, hy, hh, c1, c2, c3⟩ he hF
  have b1 : yb < W.heap.size := cell_size c1
  have b2 : hc < W.heap.size := cell_size c2
  have e1 := he.block yb b1 hy
  have e2 := he.block hc b2 hh
  refine ⟨st, hd, h1, h2, h2', hI st _ _ _ _ hi (he.mono fun k hk => .inl hk) (fun k hk => ?_), fun h => ?_, fun h => ?_, (World.cell?_of_block (a := ⟨yb, 0, none⟩) e1).trans c1, (World.cell?_of_block (a := ⟨hc, 0, none⟩) e2).trans c2, (World.frozen?_of_block (a := ⟨hc, 0, none⟩) e2).trans c3⟩
  · rcases hk with hk | hk
    · rcases hF k hk with h | h
      · exact .inl (.inl h)
      · exact .inr h
    · exact .inl (.inr hk)
  · rcases hF yb h with h | h
    · exact hy h
    · omega
  · rcases hF hc h with h | h
    · exact hh h
    · omega
theorem clo_WX {Ix : Nat → Int → SP} (hIx : ∀ n er, Clo (Ix n er)) (R0 : Except (Nat × Int) (PS × Bool)) : Clo (WX Ix R0) := by
  rintro F F' W W' ⟨n, er, h, hi⟩ he hF
  exact ⟨n, er, h, hIx n er _ _ _ _ hi he hF⟩

theorem lines_any (s : ByteArray) (w : World) :
    Calls Tryd.prog 39 #[.string s] w fun e w' => e = .returned (.func (.func 48) #[] #[.pointer (some ⟨w.heap.size, 0, none⟩)]) ∧ w.alloc (.cells #[.string s] 9) = w' := by
  go_enter Tryd.func39, Tryd.ntmps39
  go_wp2
  go_ret
  exact ⟨rfl, rfl⟩
theorem words_any (s : ByteArray) (w : World) :
    Calls Tryd.prog 26 #[.string s] w fun e w' => e = .returned (.func (.func 38) #[] #[.pointer (some ⟨w.heap.size, 0, none⟩)]) ∧ w.alloc (.cells #[.string s] 9) = w' := by
  go_enter Tryd.func26, Tryd.ntmps26
  go_wp2
  go_ret
  exact ⟨rfl, rfl⟩

set_option maxRecDepth 100000 in
set_option maxHeartbeats 2000000 in
theorem words1_in {N : Nat} (hN : 4 ≤ N) (l bs : Nat) (m : Int) (I : PS → SP) (Ix : Nat → Int → SP) (hI : ∀ st, Clo (I st)) (hIx : ∀ n er, Clo (Ix n er))
    (hIm : ∀ st F W, I st F W → W.cell? ⟨3, 0, none⟩ = some (.int .i64 m))
    (s : Bs) (hs : s.length ≤ 65536)
    (hY : ∀ st F W (n : Nat) v l0, I st F W → Bnd F W → 1 ≤ n → n ≤ 65537 → l0 ≠ [] → (∀ x ∈ l0, x.length ≤ 65536) → (0 ≤ st.left → l0.length = 1) → (∃ R : Nat → Prop, (∀ k, R k → F k) ∧ Strs R W v l0) →
      YieldAt Fence.wide 5 Tryd.prog l #[.int .i64 n, v] W fun e W' => Kept F W W' ∧ YEnd I Ix n (stepP st l0) F e W')
    (F0 : Nat → Prop) (w : World) (hF0 : Bnd F0 w) (hbF : F0 bs) (hbc : w.cell? ⟨bs, 0, none⟩ = some (.string ⟨s.toArray⟩)) (h0 : I ps0 F0 w) :
    CallsIn Fence.wide N Tryd.prog 38 #[.func (.yield l) #[] #[], .pointer (some ⟨bs, 0, none⟩)] w fun e W' => (∃ v, e = .returned v) ∧ Kept F0 w W' ∧ WEnd I Ix (runL 1 ps0 true (linesM s)) F0 W' := by
  refine callsIn_of_wp_marks Tryd.func38 rfl trivial ?_ rfl
  simp only [Tryd.ntmps38, List.size_toArray, List.length_cons, List.length_nil, Nat.reduceAdd, Nat.reduceSub, Array.replicate_succ, Array.replicate_zero, List.push_toArray, List.append_toArray, List.nil_append, List.cons_append]
  obtain ⟨R0, hR0⟩ : ∃ R0, runL 1 ps0 true (linesM s) = R0 := ⟨_, rfl⟩
  rw [hR0]
  have hbs : bs < w.heap.size := hF0 bs hbF
  have HL := hid (fun w => lines_any ⟨s.toArray⟩ w)
  have HR0 := hid hR0; have HI := hid hI; have HIX := hid hIx; have HIM := hid hIm; have HY := hid hY; have HF0 := hid hF0; have H0 := hid h0; have HBF := hid hbF
  clear hR0 hI hIx hIm hY hF0 h0 hbF
  gi_wp2
  refine ⟨trivial, (fun _ => by omega), ?_⟩
  refine (callsIn_wide.2 (HL.out _)).mono ?_
  rintro e w1 ⟨rfl, rfl⟩
  gi_wp2
  obtain ⟨w3, hw3⟩ : ∃ w3, ((w.alloc (.cells #[.func (.yield l) #[] #[]] 67)).alloc (.cells #[.bool true] 4)).alloc (.cells #[.string ⟨s.toArray⟩] 9) = w3 := ⟨_, rfl⟩
  have hb3 : Below w.heap.size w w3 := by rw [← hw3]; exact ((((Below.refl _ _).alloc (Nat.le_refl _) _).alloc (by simp) _).alloc (by simp; omega) _)
  have hs3 : w3.heap.size = w.heap.size + 3 := by rw [← hw3]; simp
  have c0 : w3.cell? ⟨w.heap.size, 0, none⟩ = some (.func (.yield l) #[] #[]) := by rw [← hw3, cell_al, if_neg (by simp; omega), cell_al, if_neg (by simp), cell_al, if_pos rfl]; rfl
  have c1 : w3.cell? ⟨w.heap.size + 1, 0, none⟩ = some (.bool true) := by rw [← hw3, cell_al, if_neg (by simp), cell_al, if_pos (by simp)]; rfl
  have c2 : w3.cell? ⟨w.heap.size + 2, 0, none⟩ = some (.string ⟨s.toArray⟩) := by rw [← hw3, cell_al, if_pos (by simp)]; rfl
  have f1 : w3.frozen? ⟨w.heap.size + 1, 0, none⟩ = false := by rw [← hw3, frozen?_alloc_cells, frozen?_alloc_cells, frozen?_alloc_cells]; simp [World.frozen?]
  have f2 : w3.frozen? ⟨w.heap.size + 2, 0, none⟩ = false := by rw [← hw3, frozen?_alloc_cells, frozen?_alloc_cells, frozen?_alloc_cells]; simp [World.frozen?]
  have C0 := hid c0; have C1 := hid c1; have C2 := hid c2; have F1 := hid f1; have F2 := hid f2; have HB3 := hid hb3; have HS3 := hid hs3
  clear c0 c1 c2 f1 f2 hb3 hs3 hbc
  rw [hw3]
  refine wp_range_lines (by omega) (w.heap.size + 2) m s hs rfl rfl (WI I R0 l w.heap.size (w.heap.size + 1)) (WX Ix R0) (fun n t => clo_WI HI.out _ _ _ _ _ _) (clo_WX HIX.out _) ?im (fun k => F0 k ∨ k = w.heap.size + 2) ?f0 (.inr rfl) C2.out F2.out ?h0 ?a1 ?assign ?body ?done ?stop
  case im => (rintro n t F W ⟨st, hd, _, _, _, hi, _⟩; exact HIM.out st _ W hi)
  case f0 => (rintro k (hk | rfl) <;> (have := HS3.out; first | (have := HF0.out k hk; omega) | omega))
  case h0 =>
    refine ⟨ps0, true, HR0.out, (fun h => absurd h (by decide)), (fun _ => show (-1 : Int) < 0 from by omega), HI.out ps0 F0 _ w w3 H0.out (Ext.below HB3.out) (fun k hk => ?_), ?_, ?_, C0.out, C1.out, F1.out⟩
    · have := HS3.out
      rcases hk with (hk | rfl) | rfl | rfl
      · exact .inl hk
      all_goals exact .inr (by omega)
    · rintro (h | h)
      · have := HF0.out _ h; omega
      · omega
    · rintro (h | h)
      · have := HF0.out _ h; omega
      · omega
  case assign =>
    intro l n v W K hK
    gi_wp2
    exact hK
  case done =>
    rintro D n W hD ⟨st, hd, hrun, _, _, hi, _⟩ hk hdef
    rw [linesM_nil] at hrun
    refine ⟨by simp, .inl ⟨_, _, rfl, run_takeDeferred hdef, ?_⟩⟩
    have HS := HS3.out
    have hkp : Kept F0 w (W.putObj D (.deferred none)) := ((Kept.below HB3.out HF0.out).trans (hk.mono fun k hk' => ⟨.inl hk', by have := HF0.out k hk'; omega⟩)).trans
      ⟨fun k hk' => World.putObj_heap_other (by have := HF0.out k hk'; omega), by simp [World.putObj], rfl, rfl, rfl⟩
    refine ⟨_, results_none rfl _ _ _, ⟨_, rfl⟩, hkp, ?_⟩
    rw [← hrun]
    exact HI.out st _ F0 _ _ hi (Ext.putObj _ _ _ (.inl (.inr rfl))) (fun k hk' => .inl (.inl (.inl (.inl hk'))))
  case stop =>
    rintro D W hD ⟨n, er, hrun, hi⟩ hk hdef
    refine ⟨by simp, .inl ⟨_, _, rfl, run_takeDeferred hdef, ?_⟩⟩
    have HS := HS3.out
    have hkp : Kept F0 w (W.putObj D (.deferred none)) := ((Kept.below HB3.out HF0.out).trans (hk.mono fun k hk' => ⟨.inl hk', by have := HF0.out k hk'; omega⟩)).trans
      ⟨fun k hk' => World.putObj_heap_other (by have := HF0.out k hk'; omega), by simp [World.putObj], rfl, rfl, rfl⟩
    refine ⟨_, results_none rfl _ _ _, ⟨_, rfl⟩, hkp, ?_⟩
    rw [hrun]
    exact HIX.out n er _ F0 _ _ hi (Ext.putObj _ _ _ (.inr rfl)) (fun k hk' => .inl (.inl (.inl hk')))
  case body =>
    rintro l' n t F W v ⟨r, hr⟩ ⟨st, hd, hrun, hdf, hdt, hi, hnF1, hnF2, c1, c2, f2⟩ hB hFF htn hn1 hnt ⟨R, hRF, hst⟩
    obtain ⟨p, cap, rfl, hc1, hc2, hc3, hrow⟩ := hst.op
    have hmem := fields_mem (cutNL t).1
    have hle := cutNL_le t
    have hnt2 : n ≤ 65537 := by omega
    have hmem2 : ∀ x ∈ fields (cutNL t).1, x.length ≤ 65536 := fun x hx => Nat.le_trans (hmem x hx) (by omega)
    rw [linesM_cons htn] at hrun
    have hrc := fun h => (@run_com n st hd (cutNL t).1 (linesM (cutNL t).2) h).symm.trans hrun
    have hrh := fun (e : hd = true) h => (@run_head n st (cutNL t).1 (linesM (cutNL t).2) h).symm.trans (by first | (rw [← e]; exact hrun) | (subst e; exact hrun) | rw [← e])
    have hrw := fun (e : hd = false) h => (@run_words n st (cutNL t).1 (linesM (cutNL t).2) h).symm.trans (by first | (rw [← e]; exact hrun) | (subst e; exact hrun) | rw [← e])
    clear hrun hmem hle
    generalize (cutNL t).2 = rest at *
    generalize fields (cutNL t).1 = L at *
    have HRC := hid hrc; have HRH := hid hrh; have HRW := hid hrw; have HMEM := hid hmem2; have HDF := hid hdf; have HDT := hid hdt; have HII := hid hi; have HB := hid hB; have HFF := hid hFF; have HNF := hid (And.intro hnF1 hnF2); have HC := hid (And.intro c1 (And.intro c2 f2)); have HRF := hid hRF; have HROW := hid hrow; have HST := hid hst
    clear hrc hrh hrw hmem2 hdf hdt hi hB hFF hnF1 hnF2 c1 c2 f2 hRF hrow hst hr r htn hnt
    cases L with
    | nil =>
      gi_wp2
      exact ⟨Kept.refl _ _, st, hd, HRC.out (by simp), HDF.out, HDT.out, HII.out, HNF.out.1, HNF.out.2, HC.out⟩
    | cons x L =>
      obtain ⟨bk, off, rfl, hR1, hcell⟩ := HROW.out.atS 0 (by simp)
      have z0 : W.cell? ⟨bk, off, none⟩ = some (.string ⟨x.toArray⟩) := hcell 0 (by simp)
      have hFbk : F bk := HRF.out bk hR1
      obtain ⟨q, hq⟩ : ∃ q, (x :: L).length = q := ⟨_, rfl⟩
      have hq1 : 1 ≤ q := by rw [← hq]; simp
      have hl0 : ((q : Int) == 0) = false := by simp; omega
      rw [hq] at hc1 hc3 ⊢
      have HST2 := hid (show Strs R W (.slice (some ⟨bk, off, none⟩) q cap) (x :: L) from by rw [← hq]; exact HST.out)
      have HQ := hid hq
      obtain ⟨C1, C2, C3⟩ := HC.out
      have HBK := hid hFbk; have HR1 := hid hR1
      clear hq hR1 hFbk
      by_cases hx : x = [99]
      · subst hx
        clear C1 C2 C3 hcell
        gi_wp2
        exact ⟨Kept.refl _ _, st, hd, HRC.out (by simp), HDF.out, HDT.out, HII.out, HNF.out.1, HNF.out.2, HC.out⟩
      · have hxc : (x == [99]) = false := by simp [hx]
        have HNC := hid (show ¬ ((x :: L) = [] ∨ (x :: L).head? = some [99]) from by simp [hx])
        obtain ⟨F', hF'⟩ : ∃ F' : Nat → Prop, F' = fun k => F k ∨ k = w.heap.size ∨ k = w.heap.size + 1 := ⟨_, rfl⟩
        have hii := HII.out
        rw [← hF'] at hii
        have hB' : Bnd F' W := by
          intro k hk
          rw [hF'] at hk
          rcases hk with hk | rfl | rfl
          · exact HB.out k hk
          · exact cell_size C1
          · exact cell_size C2
        have HF' := hid hF'
        clear hF'
        cases hd with
        | true =>
          clear hcell
          have hE : Ext F' W (W.setCell ⟨w.heap.size + 1, 0, none⟩ (.bool false)) := Ext.setCell _ _ _ _ (by rw [HF'.out]; exact .inr (.inr rfl))
          have hsz : (W.setCell ⟨w.heap.size + 1, 0, none⟩ (.bool false)).heap.size = W.heap.size := by simp [World.setCell]
          have hnbk : ∀ k, R k → k ≠ w.heap.size + 1 := fun k hk e => HNF.out.2 (by rw [← e]; exact HRF.out k hk)
          have hst1 : Strs R (W.setCell ⟨w.heap.size + 1, 0, none⟩ (.bool false)) (.slice (some ⟨bk, off, none⟩) q cap) (x :: L) := HST2.out.keep fun k hk => ⟨hk, Below.heap_setCell _ _ _ _ (hnbk k hk)⟩
          have hy0 := HY.out st F' _ n _ (x :: L) ((HI.out st).same hii hE) (hB'.le hE.size) hn1 hnt2 (by simp) HMEM.out (fun h => absurd (HDT.out rfl) (by omega)) ⟨R, fun k hk => by rw [HF'.out]; exact .inl (HRF.out k hk), hst1⟩
          have hkp : Kept F W (W.setCell ⟨w.heap.size + 1, 0, none⟩ (.bool false)) := Kept.setCell _ _ _ _ HNF.out.2
          have HKP := hid hkp
          have hc1' : (W.setCell ⟨w.heap.size + 1, 0, none⟩ (.bool false)).cell? ⟨w.heap.size + 1, 0, none⟩ = some (.bool false) := cell_setCell_same C2
          have hf1' : (W.setCell ⟨w.heap.size + 1, 0, none⟩ (.bool false)).frozen? ⟨w.heap.size + 1, 0, none⟩ = false := by rw [World.frozen?_setCell]; exact C3
          have hc0' : (W.setCell ⟨w.heap.size + 1, 0, none⟩ (.bool false)).cell? ⟨w.heap.size, 0, none⟩ = some (.func (.yield l) #[] #[]) := (World.cell?_of_block (a := ⟨w.heap.size, 0, none⟩) (Below.heap_setCell _ _ _ _ (by simp))).trans C1
          have HC' := hid (And.intro hc0' (And.intro hc1' hf1'))
          obtain ⟨fn, tmps, asg, bdy, hy, hR⟩ := hy0
          have HR := hid (round_lvl (m := N - 1 - 1 - 1) (l' := l') hR)
          have HII' := hid hii; have HB' := hid hB'
          clear hR hst1 hnbk hsz hE hkp hc1' hf1' hc0' hii hB'
          gi_wp2
          refine ⟨(fun _ => by omega), HR.out.mono ?_⟩
          rintro e W2 ⟨hk2, hye⟩
          cases hsp : stepP st (x :: L) with
          | error er =>
            rw [hsp] at hye
            obtain ⟨rfl, hx2⟩ := hye
            have hR0 := HRH.out (by trivial) HNC.out
            rw [hsp] at hR0
            have HR0' := hid hR0; have HX2 := hid hx2; have HK2 := hid hk2
            clear hR0 hx2 hk2 hsp
            gi_wp2
            refine ⟨HKP.out.trans (HK2.out.mono fun k hk => by rw [HF'.out]; exact .inl hk), n, er, HR0'.out.symm, ?_⟩
            exact HIX.out n er _ _ _ _ HX2.out (Ext.refl _ _) (fun k hk => .inl (by rw [HF'.out]; exact .inl hk))
          | ok st' =>
            rw [hsp] at hye
            obtain ⟨rfl, hi2⟩ := hye
            have hR0 := HRH.out (by trivial) HNC.out
            rw [hsp] at hR0
            have HL2 := hid (stepP_left hsp)
            have HR0' := hid hR0; have HI2 := hid hi2; have HK2 := hid hk2
            clear hR0 hi2 hk2 hsp
            gi_wp2
            refine ⟨HKP.out.trans (HK2.out.mono fun k hk => by rw [HF'.out]; exact .inl hk), st', false, HR0'.out, fun _ => HL2.out, (fun h => absurd h (by decide)), ?_, HNF.out.1, HNF.out.2, ?_, ?_, ?_⟩
            · rw [← HF'.out]; exact HI2.out
            · exact (HK2.out.cell (by rw [HF'.out]; exact .inr (.inl rfl))).trans HC'.out.1
            · exact (HK2.out.cell (by rw [HF'.out]; exact .inr (.inr rfl))).trans HC'.out.2.1
            · exact (World.frozen?_of_block (a := ⟨w.heap.size + 1, 0, none⟩) (HK2.out.1 _ (by rw [HF'.out]; exact .inr (.inr rfl)))).trans HC'.out.2.2
        | false =>
          have hR0 := HRW.out (by trivial) HNC.out
          have HR0' := hid hR0
          have HII' := hid hii; have HB' := hid hB'
          have HCELL := hid hcell
          have HL0 := hid (HDF.out (by trivial))
          obtain ⟨LL, hLL⟩ : ∃ LL, x :: L = LL := ⟨_, rfl⟩
          rw [hLL] at HR0' HST2 HQ HMEM HCELL
          have HBND := hid hc1; have HQB := hid hc3
          have HCY := hid C1; have HCH := hid C2; have HFH := hid C3
          clear hR0 hii hB' hcell C3 hLL HRC HRH HRW HROW HST HNC
          gi_wp2_with fail
          gi_loopw [6, 28] (fun jv iv wr => ∃ (i : Nat) (st' : PS), i ≤ q ∧ iv = .int .i64 (i : Int) ∧ stepW st LL = stepW st' (LL.drop i) ∧ 0 ≤ st'.left ∧ I st' F' wr ∧ Kept F' W wr) (fun _ iv _ => q - (intOf iv).toNat)
          case atStart => exact ⟨0, st, Nat.zero_le _, rfl, by simp, HL0.out, HII'.out, Kept.refl _ _⟩
          case round =>
            obtain ⟨i, st', hiq, rfl, hsw, hl', hi', hk'⟩ := hrel
            by_cases hlt : i < q
            · have hltd : decide ((i : Int) < (q : Int)) = true := by simp; omega
              have hiL : i < LL.length := by have := HQ.out; omega
              obtain ⟨xi, hxi⟩ : ∃ xi, LL[i] = xi := ⟨_, rfl⟩
              have hsw2 := hsw.trans (stepW_at hiL)
              rw [hxi] at hsw2
              have hcy : wr.drew.cell? ⟨w.heap.size, 0, none⟩ = some (.func (.yield l) #[] #[]) := (hk'.cell (by rw [HF'.out]; exact .inr (.inl rfl))).trans HCY.out
              have hstr : Strs R wr.drew (.slice (some ⟨bk, off + i, none⟩) 1 (cap - i)) [xi] := by
                refine ⟨_, _, rfl, by simp; have := HBND.out; omega, by have := hc2; omega, by simp, .inr ⟨bk, off + i, rfl, HR1.out, fun k hk => ?_⟩⟩
                obtain rfl : k = 0 := by simpa using hk
                rw [← hxi]
                exact (hk'.cell (by rw [HF'.out]; exact .inl HBK.out)).trans (HCELL.out i hiL)
              have hmi : ∀ y ∈ [xi], y.length ≤ 65536 := by
                intro y hy
                rw [List.mem_singleton] at hy
                subst hy; subst hxi
                exact HMEM.out _ (List.getElem_mem hiL)
              have hy0 := HY.out st' F' wr.drew n _ [xi] ((HI.out st').same hi' ⟨rfl, rfl, rfl, Nat.le_refl _, fun _ _ _ => rfl⟩) (HB'.out.le hk'.2.1) hn1 hnt2 (by simp) hmi (fun _ => rfl) ⟨R, fun k hk => by rw [HF'.out]; exact .inl (HRF.out k hk), hstr⟩
              obtain ⟨fn, tmps, asg, bdy, hy, hR⟩ := hy0
              have HR := hid (round_lvl (m := N - 1 - 1 - 1) (l' := l') hR)
              have HSW := hid hsw2; have HK' := hid hk'
              clear hR hsw hsw2 hk' hi' hstr hmi hxi hiL z0 hxc
              have hwr : IntKind.i64.wrap ((i : Int) + 1) = (i : Int) + 1 := IntWalk.i64_in _ (by have := HBND.out; have := HQB.out; omega)
              have a1 : 0 ≤ (i : Int) + 1 := by omega
              have a2 : (i : Int) + 1 ≤ (cap : Int) := by have := HBND.out; omega
              have a3 : ((i : Int) + 1).toNat = i + 1 := by omega
              have a4 : ¬ cap = i := by have := HBND.out; omega
              have a5 : i + 1 - i = 1 := by omega
              gi_wp2_with fail
              have hFa : ∀ f, (Fence.wide.inRound l').fn f := fun _ => trivial
              refine wpIn_region_HJ (fun W' : World => W'.cell? ⟨w.heap.size, 0, none⟩ = some (.func (.yield l) #[] #[])) 8 (by kernel_rfl) ?_
              simp only [List.size_toArray, List.length_cons, List.length_nil, Nat.reduceAdd]
              refine wpHJ_pure (v := ?v1) 1 hFa rfl (by kernel_rfl) (fun _ _ _ h => h) (Or.inl ⟨by rfl, ?y1⟩) (.inr hcy) ?r1
              case y1 => (intro w' _; go_simp; try rfl)
              simp only [Act.put, List.getElem_toArray, List.getElem_cons_succ, List.getElem_cons_zero, List.setIfInBounds_toArray, List.set_cons_zero, List.set_cons_succ]
              refine wpHJ_pure (v := ?v2) 2 hFa rfl (by kernel_rfl) (fun _ _ _ h => h) (Or.inl ⟨by rfl, ?y2⟩) (.inr hcy) ?r2
              case y2 => (intro w' _; go_simp; try rfl)
              simp only [Act.put, List.getElem_toArray, List.getElem_cons_succ, List.getElem_cons_zero, List.setIfInBounds_toArray, List.set_cons_zero, List.set_cons_succ]
              refine wpHJ_pure (v := ?v3) 3 hFa rfl (by kernel_rfl) (fun _ _ _ h => h) (Or.inl ⟨by rfl, ?y3⟩) (.inr hcy) ?r3
              case y3 => (intro w' _; go_simp; try rfl)
              simp only [Act.put, List.getElem_toArray, List.getElem_cons_succ, List.getElem_cons_zero, List.setIfInBounds_toArray, List.set_cons_zero, List.set_cons_succ]
              refine wpHJ_pure (v := ?v4) 4 hFa rfl (by kernel_rfl) (fun _ _ _ h => h) (Or.inl ⟨by rfl, ?y4⟩) (.inr hcy) ?r4
              case y4 => (intro w' _; go_simp; try rfl)
              simp only [Act.put, List.getElem_toArray, List.getElem_cons_succ, List.getElem_cons_zero, List.setIfInBounds_toArray, List.set_cons_zero, List.set_cons_succ]
              refine wpHJ_pure (v := ?v5) 5 hFa rfl (by kernel_rfl) (fun _ _ _ h => h) (Or.inl ⟨by rfl, ?y5⟩) (.inr hcy) ?r5
              case y5 => (intro w' _; go_simp; try rfl)
              simp only [Act.put, List.getElem_toArray, List.getElem_cons_succ, List.getElem_cons_zero, List.setIfInBounds_toArray, List.set_cons_zero, List.set_cons_succ]
              refine wpHJ_pure (v := ?v6) 6 hFa rfl (by kernel_rfl) (fun _ _ _ h => h) (Or.inl ⟨by rfl, ?y6⟩) (.inr hcy) ?r6
              case y6 => (intro w' _; go_simp; try rfl)
              simp only [Act.put, List.getElem_toArray, List.getElem_cons_succ, List.getElem_cons_zero, List.setIfInBounds_toArray, List.set_cons_zero, List.set_cons_succ]
              refine wpHJ_only 0 (by kernel_rfl) rfl ?_
              intro K hK
              go_simp
              refine hK _ _ (.inr (.inr hcy)) ?_
              clear hK K
              refine wpHJ_only 7 (by kernel_rfl) rfl ?_
              intro K hK
              go_simp
              refine ⟨(fun _ => by omega), ?_⟩
              refine HR.out.mono ?_
              rintro e W2 ⟨hk2, hye⟩
              have hcy2 : W2.cell? ⟨w.heap.size, 0, none⟩ = some (.func (.yield l) #[] #[]) := (hk2.cell (by rw [HF'.out]; exact .inr (.inl rfl))).trans hcy
              obtain ⟨rb, hrb⟩ : ∃ rb, e = .returned (.bool rb) := by
                unfold YEnd at hye
                split at hye
                · exact ⟨_, hye.1⟩
                · exact ⟨_, hye.1⟩
              subst hrb
              refine hK _ _ (.inr (.inr hcy2)) ?_
              clear hK K
              refine wpHJ_only 8 (by kernel_rfl) rfl ?_
              intro K hK
              go_simp
              refine hK _ _ (.inl rfl) ?_
              clear hK K
              refine wpHJ_done (by kernel_rfl) ?_ _
              skip
              clear hFa
              cases hsp : stepP st' [xi] with
              | error er =>
                rw [hsp] at hye
                have HS := hid HSW.out
                unfold Hid at HS
                rw [hsp] at HS
                rw [HS] at HR0'
                have HR0'' := hid HR0'.out
                obtain ⟨he, hx2⟩ := hye
                cases he
                have HX2 := hid hx2; have HK2 := hid hk2
                clear hx2 hk2 hsp HSW HS HR0' hcy hcy2
                gi_wp2
                refine ⟨(HK'.out.trans (Kept.trans ⟨fun _ _ => rfl, Nat.le_refl _, rfl, rfl, rfl⟩ HK2.out)).mono fun k hk => by rw [HF'.out]; exact .inl hk, n, er, HR0''.out.symm, ?_⟩
                exact HIX.out n er _ _ _ _ HX2.out (Ext.refl _ _) (fun k hk => .inl (by rw [HF'.out]; exact .inl hk))
              | ok st2 =>
                rw [hsp] at hye
                have HS := hid HSW.out
                unfold Hid at HS
                rw [hsp] at HS
                have HS2 := hid HS
                obtain ⟨he, hi2⟩ := hye
                cases he
                have HL2 := hid (stepP_left hsp)
                have HI2 := hid hi2; have HK2 := hid hk2
                clear hi2 hk2 hsp HSW HS hcy hcy2
                gi_wp2
                go_roundw
                case rel => exact ⟨i + 1, st2, by omega, by go_num, HS2.out, HL2.out, HI2.out, HK'.out.trans (Kept.trans ⟨fun _ _ => rfl, Nat.le_refl _, rfl, rfl, rfl⟩ HK2.out)⟩
                case measure => (simp [intOf]; omega)
            · obtain rfl : i = q := by omega
              have hend : stepW st LL = .ok st' := by rw [hsw, List.drop_of_length_le (by have := HQ.out; omega)]; rfl
              rw [hend] at HR0'
              have HL2 := hid hl'; have HI2 := hid hi'; have HK2 := hid hk'
              clear hsw hi' hk' hend hl'
              gi_wp2
              refine ⟨HK2.out.mono fun k hk => by rw [HF'.out]; exact .inl hk, st', false, HR0'.out, fun _ => HL2.out, (fun h => absurd h (by decide)), ?_, HNF.out.1, HNF.out.2, ?_, ?_, ?_⟩
              · rw [← HF'.out]; exact HI2.out
              · exact (HK2.out.cell (by rw [HF'.out]; exact .inr (.inl rfl))).trans HCY.out
              · exact (HK2.out.cell (by rw [HF'.out]; exact .inr (.inr rfl))).trans HCH.out
              · exact (World.frozen?_of_block (a := ⟨w.heap.size + 1, 0, none⟩) (HK2.out.1 _ (by rw [HF'.out]; exact .inr (.inr rfl)))).trans HFH.out

end Go.Proofs.YtfllhhgnflpagaaDoor
