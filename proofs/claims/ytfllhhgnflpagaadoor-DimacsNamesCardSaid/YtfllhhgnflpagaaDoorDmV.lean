/-
  The law for a loop over the words of a text; how many lines a text has.
-/
import Derived.Test.YtfllhhgnflpagaaDoorDmW
namespace Go.Proofs.YtfllhhgnflpagaaDoor
set_option linter.unusedSimpArgs false
set_option linter.unusedVariables false
open Go.RowKit Go.Shelf
attribute [local go_sem] Oper.semAt_some

/-- How a round's body ends here. -/
def WordPost (F : Nat → Prop) (I : PS → SP) (Ix : Nat → Int → SP) (n : Nat) (r : Except Int PS) (W : World) : Exit → Act → World → Prop
  | .normal, _, W' => Kept F W W' ∧ ∃ st, r = .ok st ∧ I st F W'
  | .ret, _, W' => Kept F W W' ∧ ∃ er, r = .error er ∧ Ix n er F W'
  | _, _, _ => False
/-- A loop's two blocks beside what a predicate says. -/
def WJ (D L : Nat) (lp : Loop) (I : SP) : SP := fun F W =>
  I (fun k => F k ∨ k = D ∨ k = L) W ∧ ¬ F D ∧ ¬ F L ∧ W.heap[L]? = some (.loop lp) ∧ W.heap[D]? = some (.deferred (some []))
theorem clo_WJ {D L : Nat} {lp : Loop} {I : SP} (hI : Clo I) : Clo (WJ D L lp I) := by
  rintro F F' W W' ⟨hi, hd, hl, c1, c2⟩ he hF
  have b1 : L < W.heap.size := (Array.getElem?_eq_some_iff.1 c1).1
  have b2 : D < W.heap.size := (Array.getElem?_eq_some_iff.1 c2).1
  refine ⟨hI _ _ _ _ hi (he.mono fun k hk => .inl hk) (fun k hk => ?_), fun h => ?_, fun h => ?_, (he.block L b1 hl).trans c1, (he.block D b2 hd).trans c2⟩
  · rcases hk with hk | hk
    · rcases hF k hk with h | h
      · exact .inl (.inl h)
      · exact .inr h
    · exact .inl (.inr hk)
  · rcases hF D h with h | h
    · exact hd h
    · omega
  · rcases hF L h with h | h
    · exact hl h
    · omega

theorem wp_range_words {N : Nat} {g : Operand} {ps : Array Tmp} {assign body : Code} {Q : Exit → Act → World → Prop} {a : Act} {w : World} (hN : 5 ≤ N)
    (bs : Nat) (m : Int) (s : Bs) (hs : s.length ≤ 65536)
    (hg : a.eval g = .func (.func 38) #[] #[.pointer (some ⟨bs, 0, none⟩)]) (hps : ps.size = 2)
    (I : PS → SP) (Ix : Nat → Int → SP) (hI : ∀ st, Clo (I st)) (hIx : ∀ n er, Clo (Ix n er))
    (hIm : ∀ st F W, I st F W → W.cell? ⟨3, 0, none⟩ = some (.int .i64 m))
    (F0 : Nat → Prop) (hF0 : Bnd F0 w) (hbF : F0 bs) (hbc : w.cell? ⟨bs, 0, none⟩ = some (.string ⟨s.toArray⟩))
    (h0 : I ps0 F0 w) (a₁ : Nat → Value → Act)
    (hassign : ∀ (l n : Nat) (v : Value) (W : World) (K : Act → World → Prop), K (a₁ n v) W →
      assign.wpIn (Fence.wide.inRound l) 5 Tryd.prog (Exit.then K (fun _ _ _ => False)) { tmps := (ps.zip #[.int .i64 n, v]).foldl (fun t (p, v) => t.setIfInBounds p v) a.tmps, defers := [] } W)
    (hbody : ∀ (l n : Nat) (st : PS) (F : Nat → Prop) (W : World) (v : Value) (l0 : List Bs), I st F W → Bnd F W → 1 ≤ n → n ≤ 65537 → l0 ≠ [] → (∀ x ∈ l0, x.length ≤ 65536) → (0 ≤ st.left → l0.length = 1) → (∃ R : Nat → Prop, (∀ k, R k → F k) ∧ Strs R W v l0) →
      body.wpIn (Fence.wide.inRound l) 5 Tryd.prog (WordPost F I Ix n (stepP st l0) W) (a₁ n v) W)
    (hdone : ∀ (D : Nat) (st : PS) (b : Bool) (W : World), w.heap.size ≤ D → runL 1 ps0 true (linesM s) = .ok (st, b) → I st (fun k => F0 k ∨ k = D) W → W.heap[D]? = some (.deferred (some [])) → Q .normal { a with defers := { target := .collected D, args := #[] } :: a.defers } W)
    (hstop : ∀ (D n : Nat) (er : Int) (W : World), w.heap.size ≤ D → runL 1 ps0 true (linesM s) = .error (n, er) → Ix n er (fun k => F0 k ∨ k = D) W → W.heap[D]? = some (.deferred (some [])) → Q .ret { a with defers := { target := .collected D, args := #[] } :: a.defers } W) :
    (Code.rangeFunc g ps assign body).wpIn Fence.wide N Tryd.prog Q a w := by
  refine wpIn_rangeFunc ?_
  intro fn _
  show ∃ l mark w₁ d w₁' f args w₂, (Instr.enterLoop fn a.tmps ps assign body none).run Tryd.prog w = _ ∧ _
  obtain ⟨rec, hrec⟩ : ∃ rec : LoopState → Option Code → Loop, rec = fun st pe => { state := st, pending := pe, fn, tmps := a.tmps, params := ps, assign, body, defers := w.heap.size } := ⟨_, rfl⟩
  obtain ⟨W1, hW1⟩ : ∃ W1, (w.alloc (.deferred (some []))).alloc (.loop (rec .ready none)) = W1 := ⟨_, rfl⟩
  have hL1 : W1.heap[w.heap.size + 1]? = some (.loop (rec .ready none)) := by rw [← hW1, heap_al, if_pos (by simp)]
  have hK1 : W1.heap[w.heap.size]? = some (.deferred (some [])) := by rw [← hW1, heap_al, if_neg (by simp), heap_al, if_pos rfl]
  have hbel : Below w.heap.size w W1 := by rw [← hW1]; exact (((Below.refl _ _).alloc (Nat.le_refl _) _).alloc (by simp) _)
  have hbs : bs < w.heap.size := hF0 bs hbF
  have hs1 : W1.heap.size = w.heap.size + 2 := by rw [← hW1]; simp
  obtain ⟨D, hD⟩ : ∃ D, w.heap.size = D := ⟨_, rfl⟩
  have eg : ∀ args (w : World), (callFunc 38 args).run Tryd.prog w = .ok (.enter 38 args) w := enters_of Tryd.func38 (by kernel_rfl) rfl
  refine ⟨w.heap.size + 1, [{ target := .collected w.heap.size, args := #[] }], W1, { target := .fn (.func 38) #[.pointer (some ⟨bs, 0, none⟩)], args := #[.func (.yield (w.heap.size + 1)) #[] #[]] }, W1, 38,
    #[.func (.yield (w.heap.size + 1)) #[] #[]] ++ #[.pointer (some ⟨bs, 0, none⟩)], W1, ?_, ?_, ?_, ?_, (fun _ => by omega), ?_⟩
  · rw [← hW1, hrec]; exact run_enterLoop_outer _ _ _ _ _
  · simp only [resolve, hg]
    simp [go_sem]
  · intro f' _; trivial
  · simp [invoke, go_sem, eg]
  · refine (words1_in (N := N - 1) (by omega) (w.heap.size + 1) bs m
      (fun st => WJ w.heap.size (w.heap.size + 1) (rec .ready none) (I st)) (fun n er => WJ w.heap.size (w.heap.size + 1) (rec .done (some .ret)) (Ix n er)) (fun st => clo_WJ (hI st)) (fun n er => clo_WJ (hIx n er))
      (fun st F W h => hIm st _ W h.1) s hs ?_ F0 W1 (hF0.le hbel.size) hbF ((World.cell?_of_block (a := ⟨bs, 0, none⟩) (hbel.block bs hbs)).trans hbc) ?_).mono ?_
    · rintro st F W n v l0 ⟨hi, hnD, hnL, hl, hd⟩ hB hn1 hn2 hne hmem hone ⟨R, hRF, hst⟩
      have hlt := (Array.getElem?_eq_some_iff.1 hl).1
      have hltD := (Array.getElem?_eq_some_iff.1 hd).1
      have hy := run_yield (P := Tryd.prog) (args := #[.int .i64 n, v]) hl (by rw [hrec]; exact hps.symm)
      rw [hrec] at hy
      refine ⟨fn, _, assign, body, hy, roundIn_of_wpIn trivial (hassign _ n v W _ ⟨_, run_beginRound hl (by rw [hrec]), ?_⟩)⟩
      obtain ⟨W3, hW3⟩ : ∃ W3, W.putObj (w.heap.size + 1) (.loop { rec .ready none with state := .busy }) = W3 := ⟨_, rfl⟩
      have hl3 : W3.heap[w.heap.size + 1]? = some (.loop { rec .ready none with state := .busy }) := by rw [← hW3]; exact World.putObj_heap_same hlt
      have ho3 : ∀ k, k ≠ w.heap.size + 1 → W3.heap[k]? = W.heap[k]? := fun k hk => by rw [← hW3]; exact World.putObj_heap_other (by omega)
      have hs3 : W3.heap.size = W.heap.size := by rw [← hW3]; simp [World.putObj]
      obtain ⟨F2, hF2⟩ : ∃ F2 : Nat → Prop, F2 = fun k => F k ∨ k = w.heap.size ∨ k = w.heap.size + 1 := ⟨_, rfl⟩
      rw [← hF2] at hi
      have hE3 : Ext F2 W W3 := by rw [← hW3]; exact Ext.putObj _ _ _ (by rw [hF2]; exact .inr (.inr rfl))
      have hK3 : Kept F W W3 := ⟨fun k hk => ho3 k (fun e => hnL (e ▸ hk)), by omega, hE3.os, hE3.tape, hE3.output⟩
      have hB2 : Bnd F2 W3 := by
        intro k hk
        rw [hF2] at hk
        rw [hs3]
        rcases hk with hk | rfl | rfl
        · exact hB k hk
        · exact hltD
        · exact hlt
      rw [hW3]
      refine wpIn_mono (hbody _ n st F2 W3 v l0 ((hI st).same hi hE3) hB2 hn1 hn2 hne hmem hone ⟨R, fun k hk => by rw [hF2]; exact .inl (hRF k hk), hst.keep fun k hk => ⟨hk, hK3.1 k (hRF k hk)⟩⟩) ?_
      have fin : ∀ (jump : Option Code) (W4 : World), Kept F2 W3 W4 →
          (Instr.endRound (w.heap.size + 1) jump).run Tryd.prog W4 = .ok (.bool jump.isNone) (W4.putObj (w.heap.size + 1) (.loop (rec (if jump.isNone then .ready else .done) jump))) ∧
          (W4.putObj (w.heap.size + 1) (.loop (rec (if jump.isNone then .ready else .done) jump))).heap[w.heap.size + 1]? = some (.loop (rec (if jump.isNone then .ready else .done) jump)) ∧
          (W4.putObj (w.heap.size + 1) (.loop (rec (if jump.isNone then .ready else .done) jump))).heap[w.heap.size]? = some (.deferred (some [])) ∧
          Kept F W (W4.putObj (w.heap.size + 1) (.loop (rec (if jump.isNone then .ready else .done) jump))) := by
        intro jump W4 hk4
        have hl4 := (hk4.1 (w.heap.size + 1) (by rw [hF2]; exact .inr (.inr rfl))).trans hl3
        have hd4 := (hk4.1 w.heap.size (by rw [hF2]; exact .inr (.inl rfl))).trans ((ho3 _ (by omega)).trans hd)
        have hr := run_endRound (P := Tryd.prog) jump hl4
        rw [hrec] at hr ⊢
        exact ⟨hr, World.putObj_heap_same (Array.getElem?_eq_some_iff.1 hl4).1, (World.putObj_heap_other (by omega)).trans hd4,
          (hK3.trans (hk4.mono fun k hk => by rw [hF2]; exact .inl hk)).trans ⟨fun k hk => World.putObj_heap_other (fun e => hnL (by subst e; exact hk)), by simp [World.putObj], rfl, rfl, rfl⟩⟩
      have ext : ∀ (W4 : World) (o : Obj), Ext F2 W4 (W4.putObj (w.heap.size + 1) o) := fun W4 o => Ext.putObj _ _ _ (by rw [hF2]; exact .inr (.inr rfl))
      rintro e a3 W4 hp
      cases e with
      | normal =>
        obtain ⟨hk4, st', hst', hi4⟩ := hp
        obtain ⟨g1, g2, g3, g4⟩ := fin none W4 hk4
        refine ⟨_, _, g1, g4, ?_⟩
        rw [hst']
        exact ⟨rfl, by have := (hI st').same hi4 (ext W4 (.loop (rec .ready none))); rw [hF2] at this; exact this, hnD, hnL, g2, g3⟩
      | ret =>
        obtain ⟨hk4, er, her, hi4⟩ := hp
        obtain ⟨g1, g2, g3, g4⟩ := fin (some .ret) W4 hk4
        refine ⟨_, _, g1, g4, ?_⟩
        rw [her]
        exact ⟨rfl, by have := (hIx n er).same hi4 (ext W4 (.loop (rec .done (some .ret)))); rw [hF2] at this; exact this, hnD, hnL, g2, g3⟩
      | _ => exact hp.elim
    · refine ⟨hI ps0 F0 _ w W1 h0 (Ext.below hbel) (fun k hk => ?_), fun h => ?_, fun h => ?_, hL1, hK1⟩
      · rcases hk with hk | rfl | rfl
        · exact .inl hk
        · exact .inr (by omega)
        · exact .inr (by omega)
      · have := hF0 _ h; omega
      · have := hF0 _ h; omega
    · rintro e W2 ⟨⟨v, rfl⟩, hk2, hend⟩
      unfold WEnd at hend
      cases hr : runL 1 ps0 true (linesM s) with
      | ok x =>
        obtain ⟨st, b⟩ := x
        rw [hr] at hend
        obtain ⟨hi, hnD, hnL, hl, hd⟩ := hend
        refine ⟨none, _, by have := run_endLoop (P := Tryd.prog) hl (by rw [hrec]; simp); rw [hrec] at this; exact this, ?_⟩
        exact hdone _ st b _ (Nat.le_refl _) hr (hI st _ _ _ _ hi (Ext.putObj _ _ _ (.inr (.inr rfl))) (fun k hk => .inl (hk.elim .inl (fun e => .inr (.inl e))))) ((World.putObj_heap_other (by omega)).trans hd)
      | error x =>
        obtain ⟨n, er⟩ := x
        rw [hr] at hend
        obtain ⟨hi, hnD, hnL, hl, hd⟩ := hend
        refine ⟨some .ret, _, by have := run_endLoop (P := Tryd.prog) hl (by rw [hrec]; simp); rw [hrec] at this; exact this, ?_⟩
        exact wpIn_ret (hstop _ n er _ (Nat.le_refl _) hr (hIx n er _ _ _ _ hi (Ext.putObj _ _ _ (.inr (.inr rfl))) (fun k hk => .inl (hk.elim .inl (fun e => .inr (.inl e))))) ((World.putObj_heap_other (by omega)).trans hd))

end Go.Proofs.YtfllhhgnflpagaaDoor
