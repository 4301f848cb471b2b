/-
  The law for a loop over the lines of a text: what the loop's body owns, and what others own.
-/
import Derived.Test.YtfllhhgnflpagaaDoorDmL
namespace Go.Proofs.YtfllhhgnflpagaaDoor
set_option linter.unusedSimpArgs false
set_option linter.unusedVariables false
open Go.RowKit Go.Shelf
attribute [local go_sem] Oper.semAt_some

/-- W' is W but for blocks of F, and new ones. -/
structure Ext (F : Nat → Prop) (W W' : World) : Prop where
  os : W'.os = W.os
  tape : W'.tape = W.tape
  output : W'.output = W.output
  size : W.heap.size ≤ W'.heap.size
  block : ∀ k, k < W.heap.size → ¬ F k → W'.heap[k]? = W.heap[k]?
theorem Ext.refl (F : Nat → Prop) (W : World) : Ext F W W := ⟨rfl, rfl, rfl, Nat.le_refl _, fun _ _ _ => rfl⟩
theorem Ext.trans {F : Nat → Prop} {a b c : World} (h : Ext F a b) (k : Ext F b c) : Ext F a c :=
  ⟨k.os.trans h.os, k.tape.trans h.tape, k.output.trans h.output, Nat.le_trans h.size k.size, fun i hi hf => (k.block i (Nat.lt_of_lt_of_le hi h.size) hf).trans (h.block i hi hf)⟩
theorem Ext.below {F : Nat → Prop} {a b : World} (h : Below a.heap.size a b) : Ext F a b := ⟨h.os, h.tape, h.output, h.size, fun k hk _ => h.block k hk⟩
theorem Ext.drewN (F : Nat → Prop) (W : World) (n : Nat) : Ext F W (W.drewN n) := ⟨rfl, rfl, rfl, Nat.le_refl _, fun _ _ _ => rfl⟩
theorem Ext.setCell {F : Nat → Prop} (W : World) (b i : Nat) (v : Value) (h : F b) : Ext F W (W.setCell ⟨b, i, none⟩ v) :=
  ⟨rfl, rfl, rfl, by simp [World.setCell], fun k hk hf => Below.heap_setCell _ _ _ _ (fun e => hf (by have e' : k = b := e; rw [e']; exact h))⟩
theorem Ext.putObj {F : Nat → Prop} (W : World) (l : Nat) (o : Obj) (h : F l) : Ext F W (W.putObj l o) :=
  ⟨rfl, rfl, rfl, by simp [World.putObj], fun k hk hf => World.putObj_heap_other (fun e => hf (by subst e; exact h))⟩
theorem Ext.mono {F F' : Nat → Prop} {a b : World} (h : Ext F a b) (hf : ∀ k, F k → F' k) : Ext F' a b :=
  ⟨h.os, h.tape, h.output, h.size, fun k hk hn => h.block k hk (fun e => hn (hf k e))⟩
theorem Ext.alloc (F : Nat → Prop) (W : World) (o : Obj) : Ext F W (W.alloc o) := Ext.below ((Below.refl _ _).alloc (Nat.le_refl _) _)

/-- What abides when others act: F is what the others own. -/
abbrev SP := (Nat → Prop) → World → Prop
def Clo (I : SP) : Prop := ∀ F F' W W', I F W → Ext F W W' → (∀ k, F' k → F k ∨ (W.heap.size ≤ k ∧ k < W'.heap.size)) → I F' W'
def Gro (F : Nat → Prop) (W W' : World) : Nat → Prop := fun k => F k ∨ (W.heap.size ≤ k ∧ k < W'.heap.size)
theorem Clo.gro {I : SP} (h : Clo I) {F : Nat → Prop} {W W' : World} (hi : I F W) (he : Ext F W W') : I (Gro F W W') W' := h F _ W W' hi he (fun k hk => hk)
theorem Clo.same {I : SP} (h : Clo I) {F : Nat → Prop} {W W' : World} (hi : I F W) (he : Ext F W W') : I F W' := h F _ W W' hi he (fun k hk => .inl hk)
def Bnd (F : Nat → Prop) (W : World) : Prop := ∀ k, F k → k < W.heap.size
theorem Bnd.gro {F : Nat → Prop} {W W' : World} (h : Bnd F W) (hs : W.heap.size ≤ W'.heap.size) : Bnd (Gro F W W') W' := fun k hk => by
  rcases hk with hk | hk
  · exact Nat.lt_of_lt_of_le (h k hk) hs
  · exact hk.2
theorem Bnd.le {F : Nat → Prop} {W W' : World} (h : Bnd F W) (hs : W.heap.size ≤ W'.heap.size) : Bnd F W' := fun k hk => Nat.lt_of_lt_of_le (h k hk) hs
/-- All of F lies as it lay. -/
def Kept (F : Nat → Prop) (W W' : World) : Prop := (∀ k, F k → W'.heap[k]? = W.heap[k]?) ∧ W.heap.size ≤ W'.heap.size ∧ W'.os = W.os ∧ W'.tape = W.tape ∧ W'.output = W.output
theorem Kept.refl (F : Nat → Prop) (W : World) : Kept F W W := ⟨fun _ _ => rfl, Nat.le_refl _, rfl, rfl, rfl⟩
theorem Kept.trans {F : Nat → Prop} {a b c : World} (h : Kept F a b) (k : Kept F b c) : Kept F a c :=
  ⟨fun i hi => (k.1 i hi).trans (h.1 i hi), Nat.le_trans h.2.1 k.2.1, k.2.2.1.trans h.2.2.1, k.2.2.2.1.trans h.2.2.2.1, k.2.2.2.2.trans h.2.2.2.2⟩
theorem Kept.mono {F F' : Nat → Prop} {a b : World} (h : Kept F a b) (hf : ∀ k, F' k → F k) : Kept F' a b := ⟨fun k hk => h.1 k (hf k hk), h.2⟩
theorem Kept.below {F : Nat → Prop} {a b : World} (h : Below a.heap.size a b) (hF : Bnd F a) : Kept F a b := ⟨fun k hk => h.block k (hF k hk), h.size, h.os, h.tape, h.output⟩
theorem Kept.setCell {F : Nat → Prop} (W : World) (b i : Nat) (v : Value) (h : ¬ F b) : Kept F W (W.setCell ⟨b, i, none⟩ v) :=
  ⟨fun k hk => Below.heap_setCell _ _ _ _ (fun e => h (by have e' : k = b := e; rw [← e']; exact hk)), by simp [World.setCell], rfl, rfl, rfl⟩
theorem Kept.cell {F : Nat → Prop} {a b : World} (h : Kept F a b) {k i : Nat} (hk : F k) : b.cell? ⟨k, i, none⟩ = a.cell? ⟨k, i, none⟩ := World.cell?_of_block (a := ⟨k, i, none⟩) (h.1 k hk)

/-- How a round's body ends here: off its end, or by a return. -/
def LinePost (F : Nat → Prop) (I Ix : SP) (W : World) : Exit → Act → World → Prop
  | .normal, _, W' => Kept F W W' ∧ I F W'
  | .ret, _, W' => Kept F W W' ∧ Ix F W'
  | _, _, _ => False

theorem cell_setCell_same {w : World} {b : Nat} {u v : Value} (h : w.cell? ⟨b, 0, none⟩ = some u) : (w.setCell ⟨b, 0, none⟩ v).cell? ⟨b, 0, none⟩ = some v := by
  unfold World.cell? at h ⊢
  simp only [World.setCell, Array.getElem?_modify]
  cases hh : w.heap[b]? with
  | none => rw [hh] at h; cases h
  | some o =>
    rw [hh] at h
    cases o <;> simp_all
    rename_i cs _ _
    rcases Nat.eq_zero_or_pos cs.size with h0 | h0
    · rw [Array.getElem?_eq_none (by omega)] at h; cases h
    · simp [h0]

theorem wp_range_lines {N : Nat} {g : Operand} {ps : Array Tmp} {assign body : Code} {Q : Exit → Act → World → Prop} {a : Act} {w : World} (hN : 3 ≤ N)
    (bs : Nat) (m : Int) (s : Bs) (hs : s.length ≤ 65536)
    (hg : a.eval g = .func (.func 48) #[] #[.pointer (some ⟨bs, 0, none⟩)]) (hps : ps.size = 2)
    (I : Nat → Bs → SP) (Ix : SP) (hI : ∀ n t, Clo (I n t)) (hIx : Clo Ix)
    (hIm : ∀ n t F W, I n t F W → W.cell? ⟨3, 0, none⟩ = some (.int .i64 m))
    (F0 : Nat → Prop) (hF0 : Bnd F0 w) (hbF : F0 bs) (hbc : w.cell? ⟨bs, 0, none⟩ = some (.string ⟨s.toArray⟩)) (hbf : w.frozen? ⟨bs, 0, none⟩ = false)
    (h0 : I 1 s F0 w) (a₁ : Nat → Value → Act)
    (hassign : ∀ (l n : Nat) (v : Value) (W : World) (K : Act → World → Prop), K (a₁ n v) W →
      assign.wpIn (Fence.wide.inRound l) (N - 1 - 1) Tryd.prog (Exit.then K (fun _ _ _ => False)) { tmps := (ps.zip #[.int .i64 n, v]).foldl (fun t (p, v) => t.setIfInBounds p v) a.tmps, defers := [] } W)
    (hbody : ∀ (l n : Nat) (t : Bs) (F : Nat → Prop) (W : World) (v : Value), (∃ r, W.heap[l]? = some (.loop r)) → I n t F W → Bnd F W → (∀ k, F0 k → F k) → t ≠ [] → 1 ≤ n → n + t.length ≤ 65537 → (∃ R : Nat → Prop, (∀ k, R k → F k) ∧ Strs R W v (fields (cutNL t).1)) →
      body.wpIn (Fence.wide.inRound l) (N - 1 - 1) Tryd.prog (LinePost F (I (n + 1) (cutNL t).2) Ix W) (a₁ n v) W)
    (hdone : ∀ (D n : Nat) (W : World), w.heap.size ≤ D → I n [] (fun k => F0 k ∨ k = D) W → Kept (fun k => F0 k ∧ k ≠ bs) w W → W.heap[D]? = some (.deferred (some [])) → Q .normal { a with defers := { target := .collected D, args := #[] } :: a.defers } W)
    (hstop : ∀ (D : Nat) (W : World), w.heap.size ≤ D → Ix (fun k => F0 k ∨ k = D) W → Kept (fun k => F0 k ∧ k ≠ bs) w W → W.heap[D]? = some (.deferred (some [])) → Q .ret { a with defers := { target := .collected D, args := #[] } :: a.defers } W) :
    (Code.rangeFunc g ps assign body).wpIn Fence.wide N Tryd.prog Q a w := by
  refine wpIn_rangeFunc ?_
  intro fn _
  show ∃ l mark w₁ d w₁' f args w₂, (Instr.enterLoop fn a.tmps ps assign body none).run Tryd.prog w = _ ∧ _
  obtain ⟨rec, hrec⟩ : ∃ rec : LoopState → Option Code → Loop, rec = fun st pe => { state := st, pending := pe, fn, tmps := a.tmps, params := ps, assign, body, defers := w.heap.size } := ⟨_, rfl⟩
  obtain ⟨W1, hW1⟩ : ∃ W1, (w.alloc (.deferred (some []))).alloc (.loop (rec .ready none)) = W1 := ⟨_, rfl⟩
  have hL1 : W1.heap[w.heap.size + 1]? = some (.loop (rec .ready none)) := by rw [← hW1, heap_al, if_pos (by simp)]
  have hK1 : W1.heap[w.heap.size]? = some (.deferred (some [])) := by rw [← hW1, heap_al, if_neg (by simp), heap_al, if_pos rfl]
  have hbel : Below w.heap.size w W1 := by rw [← hW1]; exact (((Below.refl _ _).alloc (Nat.le_refl _) _).alloc (by simp) _)
  have hbs : bs < w.heap.size := hF0 bs hbF
  have hs1 : W1.heap.size = w.heap.size + 2 := by rw [← hW1]; simp
  -- who owns what
  obtain ⟨J, hJ⟩ : ∃ J : (LoopState → Option Code → Loop) → LoopState → Option Code → SP → World → Prop, J = fun rec st pe S W =>
      ∃ F : Nat → Prop, Bnd F W ∧ (∀ k, F0 k → F k) ∧ F w.heap.size ∧ F (w.heap.size + 1) ∧ S F W ∧ W.heap[w.heap.size + 1]? = some (.loop (rec st pe)) ∧ W.heap[w.heap.size]? = some (.deferred (some [])) ∧ Kept (fun k => F0 k ∧ k ≠ bs) w W := ⟨_, rfl⟩
  have eg : ∀ args (w : World), (callFunc 48 args).run Tryd.prog w = .ok (.enter 48 args) w := enters_of Tryd.func48 (by kernel_rfl) rfl
  refine ⟨w.heap.size + 1, [{ target := .collected w.heap.size, args := #[] }], W1, { target := .fn (.func 48) #[.pointer (some ⟨bs, 0, none⟩)], args := #[.func (.yield (w.heap.size + 1)) #[] #[]] }, W1, 48,
    #[.func (.yield (w.heap.size + 1)) #[] #[]] ++ #[.pointer (some ⟨bs, 0, none⟩)], W1, ?_, ?_, ?_, ?_, (fun _ => by omega), ?_⟩
  · rw [← hW1, hrec]; exact run_enterLoop_outer _ _ _ _ _
  · simp only [resolve, hg]
    simp [go_sem]
  · intro f' _; trivial
  · simp [invoke, go_sem, eg]
  · refine (lines1_in (N - 1) (w.heap.size + 1) bs (by omega) m
      (fun n t W => J rec .ready none (I n t) W ∧ W.cell? ⟨bs, 0, none⟩ = some (.string ⟨t.toArray⟩) ∧ W.frozen? ⟨bs, 0, none⟩ = false)
      (J rec .done (some .ret) Ix) ?_ ?_ s hs W1 ?_).mono ?_
    · rintro n t W ⟨hj, hc, hf⟩
      rw [hJ] at hj
      obtain ⟨F, _, _, _, _, hi, _⟩ := hj
      exact ⟨hc, hf, hIm n t F W hi⟩
    · rintro n t W kd W2 v ⟨hj, hc, hf⟩ htn hn1 hnt hb2 hst
      rw [hJ] at hj
      obtain ⟨F, hFb, hF0F, hFd, hFl, hi, hl, hd, hkp⟩ := hj
      have hsz : ((W.drewN kd).setCell ⟨bs, 0, none⟩ (.string ⟨(cutNL t).2.toArray⟩)).heap.size = W.heap.size := by
        first
          | (simp [World.setCell]; rfl)
          | simp [World.setCell]
      have hbsW : bs < W.heap.size := hFb bs (hF0F bs hbF)
      have hE2 : Ext F W W2 := ((Ext.drewN F W kd).trans (Ext.setCell _ bs 0 _ (hF0F bs hbF))).trans (Ext.below (by rw [hsz]; exact hb2))
      have hother : ∀ k, k < W.heap.size → k ≠ bs → W2.heap[k]? = W.heap[k]? := fun k hk hne =>
        (hb2.block k hk).trans (Below.heap_setCell _ _ _ _ hne)
      have hc0 : (W.drewN kd).cell? ⟨bs, 0, none⟩ = some (.string ⟨t.toArray⟩) := hc
      have hc2 : W2.cell? ⟨bs, 0, none⟩ = some (.string ⟨(cutNL t).2.toArray⟩) := (World.cell?_of_block (a := ⟨bs, 0, none⟩) (hb2.block bs hbsW)).trans (cell_setCell_same hc0)
      have hf2 : W2.frozen? ⟨bs, 0, none⟩ = false := by
        rw [World.frozen?_of_block (a := ⟨bs, 0, none⟩) (hb2.block bs hbsW), World.frozen?_setCell]
        exact hf
      have hltW : w.heap.size + 1 < W.heap.size := hFb _ hFl
      have hl2 : W2.heap[w.heap.size + 1]? = some (.loop (rec .ready none)) := (hother _ hltW (by omega)).trans hl
      have hd2 : W2.heap[w.heap.size]? = some (.deferred (some [])) := (hother _ (by omega) (by omega)).trans hd
      have hlt2 : w.heap.size + 1 < W2.heap.size := (Array.getElem?_eq_some_iff.1 hl2).1
      have hy := run_yield (P := Tryd.prog) (args := #[.int .i64 n, v]) hl2 (by rw [hrec]; exact hps.symm)
      rw [hrec] at hy
      refine ⟨fn, _, assign, body, hy, roundIn_of_wpIn trivial (hassign _ n v W2 _ ⟨_, run_beginRound hl2 (by rw [hrec]), ?_⟩)⟩
      obtain ⟨W3, hW3⟩ : ∃ W3, W2.putObj (w.heap.size + 1) (.loop { rec .ready none with state := .busy }) = W3 := ⟨_, rfl⟩
      have hl3 : W3.heap[w.heap.size + 1]? = some (.loop { rec .ready none with state := .busy }) := by rw [← hW3]; exact World.putObj_heap_same hlt2
      have ho3 : ∀ k, k ≠ w.heap.size + 1 → W3.heap[k]? = W2.heap[k]? := fun k hk => by rw [← hW3]; exact World.putObj_heap_other (by omega)
      have hs3 : W3.heap.size = W2.heap.size := by rw [← hW3]; simp [World.putObj]
      have hE3 : Ext F W2 W3 := by rw [← hW3]; exact Ext.putObj _ _ _ hFl
      obtain ⟨F2, hF2⟩ : ∃ F2, Gro F W W3 = F2 := ⟨_, rfl⟩
      have hi3 : I n t F2 W3 := by rw [← hF2]; exact (hI n t).gro hi (hE2.trans hE3)
      have hFF2 : ∀ k, F k → F2 k := fun k hk => by rw [← hF2]; exact .inl hk
      have hB3 : Bnd F2 W3 := by rw [← hF2]; exact hFb.gro (hE2.trans hE3).size
      have hkp3 : Kept (fun k => F0 k ∧ k ≠ bs) w W3 := hkp.trans ⟨fun k hk => (ho3 k (by have := hF0 k hk.1; omega)).trans (hother k (hFb k (hF0F k hk.1)) hk.2), by have := hE2.size; omega, (hE2.trans hE3).os, (hE2.trans hE3).tape, (hE2.trans hE3).output⟩
      rw [hW3]
      refine wpIn_mono (hbody _ n t F2 W3 v ⟨_, hl3⟩ hi3 hB3 (fun k hk => hFF2 k (hF0F k hk)) htn hn1 hnt ⟨_, fun k hk => ?_, hst.keep fun k hk => ⟨hk, ho3 k (by omega)⟩⟩) ?_
      · rw [← hF2]
        exact .inr ⟨hk.1, by rw [hs3]; exact hk.2⟩
      · rintro e a3 W4 hp
        cases e with
        | normal =>
          obtain ⟨hk4, hi4⟩ := hp
          have hl4 := (hk4.1 _ (hFF2 _ hFl)).trans hl3
          have hd4 := (hk4.1 _ (hFF2 _ hFd)).trans ((ho3 _ (by omega)).trans hd2)
          have hlt4 := (Array.getElem?_eq_some_iff.1 hl4).1
          have hr := run_endRound (P := Tryd.prog) none hl4
          rw [hrec] at hr
          refine ⟨_, _, hr, .inl ⟨rfl, ?_, ?_, ?_⟩⟩
          · rw [hJ]
            refine ⟨F2, (hB3.le hk4.2.1).le (by simp [World.putObj]), fun k hk => hFF2 k (hF0F k hk), hFF2 _ hFd, hFF2 _ hFl, (hI _ _).same hi4 (Ext.putObj _ _ _ (hFF2 _ hFl)), ?_, (World.putObj_heap_other (by omega)).trans hd4, ?_⟩
            · rw [hrec]; exact World.putObj_heap_same hlt4
            · exact (hkp3.trans (hk4.mono fun k hk => hFF2 k (hF0F k hk.1))).trans ⟨fun k hk => World.putObj_heap_other (by have := hF0 k hk.1; omega), by simp [World.putObj], rfl, rfl, rfl⟩
          · refine (World.cell?_of_block (a := ⟨bs, 0, none⟩) (World.putObj_heap_other (by simp only; omega))).trans ?_
            refine (World.cell?_of_block (a := ⟨bs, 0, none⟩) (hk4.1 bs (hFF2 _ (hF0F _ hbF)))).trans ?_
            exact (World.cell?_of_block (a := ⟨bs, 0, none⟩) (ho3 bs (by omega))).trans hc2
          · refine (World.frozen?_of_block (a := ⟨bs, 0, none⟩) (World.putObj_heap_other (by simp only; omega))).trans ?_
            refine (World.frozen?_of_block (a := ⟨bs, 0, none⟩) (hk4.1 bs (hFF2 _ (hF0F _ hbF)))).trans ?_
            exact (World.frozen?_of_block (a := ⟨bs, 0, none⟩) (ho3 bs (by omega))).trans hf2
        | ret =>
          obtain ⟨hk4, hi4⟩ := hp
          have hl4 := (hk4.1 _ (hFF2 _ hFl)).trans hl3
          have hd4 := (hk4.1 _ (hFF2 _ hFd)).trans ((ho3 _ (by omega)).trans hd2)
          have hlt4 := (Array.getElem?_eq_some_iff.1 hl4).1
          have hr := run_endRound (P := Tryd.prog) (some .ret) hl4
          rw [hrec] at hr
          refine ⟨_, _, hr, .inr ⟨rfl, ?_⟩⟩
          rw [hJ]
          refine ⟨F2, (hB3.le hk4.2.1).le (by simp [World.putObj]), fun k hk => hFF2 k (hF0F k hk), hFF2 _ hFd, hFF2 _ hFl, hIx.same hi4 (Ext.putObj _ _ _ (hFF2 _ hFl)), ?_, (World.putObj_heap_other (by omega)).trans hd4, ?_⟩
          · rw [hrec]; exact World.putObj_heap_same hlt4
          · exact (hkp3.trans (hk4.mono fun k hk => hFF2 k (hF0F k hk.1))).trans ⟨fun k hk => World.putObj_heap_other (by have := hF0 k hk.1; omega), by simp [World.putObj], rfl, rfl, rfl⟩
        | _ => exact hp.elim
    · rw [hJ]
      refine ⟨⟨Gro F0 w W1, hF0.gro hbel.size, fun k hk => .inl hk, .inr ⟨Nat.le_refl _, by omega⟩, .inr ⟨by omega, by omega⟩, (hI 1 s).gro h0 (Ext.below hbel), hL1, hK1, Kept.below hbel (fun k hk => hF0 k hk.1)⟩, ?_, ?_⟩
      · exact (World.cell?_of_block (a := ⟨bs, 0, none⟩) (hbel.block bs hbs)).trans hbc
      · exact (World.frozen?_of_block (a := ⟨bs, 0, none⟩) (hbel.block bs hbs)).trans hbf
    · rw [hJ]
      rintro e W2 ⟨⟨v, rfl⟩, (⟨n, ⟨F, hB, hF0F, hFd, hFl, hi, hl, hd, hkp⟩, _, _⟩ | ⟨F, hB, hF0F, hFd, hFl, hi, hl, hd, hkp⟩)⟩
      · refine ⟨none, _, by have := run_endLoop (P := Tryd.prog) hl (by rw [hrec]; simp); rw [hrec] at this; exact this, ?_⟩
        exact hdone _ n _ (Nat.le_refl _) (hI n [] F _ _ _ hi (Ext.putObj _ _ _ hFl) (fun k hk => .inl (hk.elim (hF0F k) (fun e => e ▸ hFd)))) (hkp.trans ⟨fun k hk => World.putObj_heap_other (by have := hF0 k hk.1; omega), by simp [World.putObj], rfl, rfl, rfl⟩) ((World.putObj_heap_other (by omega)).trans hd)
      · refine ⟨some .ret, _, by have := run_endLoop (P := Tryd.prog) hl (by rw [hrec]; simp); rw [hrec] at this; exact this, ?_⟩
        exact wpIn_ret (hstop _ _ (Nat.le_refl _) (hIx F _ _ _ hi (Ext.putObj _ _ _ hFl) (fun k hk => .inl (hk.elim (hF0F k) (fun e => e ▸ hFd)))) (hkp.trans ⟨fun k hk => World.putObj_heap_other (by have := hF0 k hk.1; omega), by simp [World.putObj], rfl, rfl, rfl⟩) ((World.putObj_heap_other (by omega)).trans hd))

end Go.Proofs.YtfllhhgnflpagaaDoor
