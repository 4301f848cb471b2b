/-
 PrintApart: lengths, and what a program without its positions keeps.
 Positions are written over: what is left of a weak reading (kit.Bare writes into the cells that it reads, and rows may be shared).
-/
import Derived.Test.YtoofbgoeipijcaaDoorUSPcE
import Derived.Test.YtoofbgoeipijcaaDoorUSPaT
import Derived.Test.YtoofbgoeipijcaaDoorUSPrI
import Derived.Test.YtoofbgoeipijcaaDoorUSPaC
namespace Go.Proofs.YtoofbgoeipijcaaDoor
set_option linter.unusedSimpArgs false
set_option linter.unusedVariables false
open Go.RowKit Go.Shelf
attribute [local go_sem] Oper.semAt_some

theorem fewL_memA {l : List In} {y : In} (h : y ∈ fewL l) : ∃ x ∈ l, y = fewI x := by
 obtain ⟨x, hx, rfl⟩ := List.mem_map.1 h
 exact ⟨x, List.mem_of_mem_take hx, rfl⟩
theorem fewL_lenA (l : List In) : (fewL l).length ≤ 1000000000000 ∧ ∀ y ∈ fewL l, y.args.length ≤ 5864062014805 := by
 refine ⟨by unfold fewL; rw [List.length_map, List.length_take]; omega, fun y hy => ?_⟩
 obtain ⟨x, _, rfl⟩ := fewL_memA hy
 show (x.args.take 34).length ≤ _
 rw [List.length_take]; omega
theorem few_lenP (p : Pg) : LenP (fewP p) := by
 refine ⟨?_, ?_, ?_, ?_, fewL_lenA _⟩
 ·show (p.chans.take 34).length ≤ _; rw [List.length_take]; omega
 ·show (p.arrays.take 34).length ≤ _; rw [List.length_take]; omega
 ·show ((p.funcs.take 5).map fewF).length ≤ _; rw [List.length_map, List.length_take]; omega
 ·intro g hg
  obtain ⟨f, _, rfl⟩ := List.mem_map.1 (show g ∈ (p.funcs.take 5).map fewF from hg)
  exact ⟨by show (f.params.take 34).length ≤ _; rw [List.length_take]; omega, (fewL_lenA _).1, (fewL_lenA _).2⟩
theorem inl_bare {P : In → Prop} (hP : ∀ x y : In, bareI x = bareI y → P y → P x) {l m : List In} (h : l.map bareI = m.map bareI) (hm : ∀ y ∈ m, P y) : ∀ x ∈ l, P x := by
 intro x hx
 have : bareI x ∈ m.map bareI := by rw [← h]; exact List.mem_map.2 ⟨x, hx, rfl⟩
 obtain ⟨y, hy, e⟩ := List.mem_map.1 this
 exact hP x y e.symm (hm y hy)
theorem ok_bare {p q : Pg} (h : bareP p = bareP q) (hk : PgOk q) : PgOk p := by
 have hP : ∀ x y : In, bareI x = bareI y → (y.kind ≤ 255 ∧ y.op ≤ 255) → (x.kind ≤ 255 ∧ x.op ≤ 255) := fun x y e h => by
  have e1 := congrArg In.kind e; have e2 := congrArg In.op e
  simp only [bareI] at e1 e2
  rw [e1, e2]; exact h
 refine ⟨fun f hf => ?_, inl_bare hP (bP_main h) hk.main⟩
 have : bareF f ∈ q.funcs.map bareF := by rw [← bP_funcs h]; exact List.mem_map.2 ⟨f, hf, rfl⟩
 obtain ⟨g, hg, e⟩ := List.mem_map.1 this
 exact inl_bare hP (bF_code e.symm) (hk.funcs g hg)
theorem num_bare {p q : Pg} (h : bareP p = bareP q) (hk : NumP q) : NumP p := by
 have hP : ∀ x y : In, bareI x = bareI y → NumI y → NumI x := fun x y e h => by
  unfold NumI at h ⊢
  rw [bI_args e]; exact h
 refine ⟨fun f hf => ?_, inl_bare hP (bP_main h) hk.main⟩
 have : bareF f ∈ q.funcs.map bareF := by rw [← bP_funcs h]; exact List.mem_map.2 ⟨f, hf, rfl⟩
 obtain ⟨g, hg, e⟩ := List.mem_map.1 this
 exact inl_bare hP (bF_code e.symm) (hk.funcs g hg)
theorem print_good0 {q : Pg} {S : Bs} (h : printM q = (S, 0)) : (checkM q).2 = 0 ∧ S = textT (linesT q) ∧ (textT (linesT q)).length ≤ 65536 := by
 unfold printM at h
 by_cases h0 : (checkM q).2 = 0
 ·rw [if_neg (by rw [h0]; decide)] at h
  split at h
  ·have h1 := congrArg Prod.snd h; simp only at h1; omega
  ·exact ⟨h0, (congrArg Prod.fst h).symm, by omega⟩
 ·rw [if_pos h0] at h; have h1 := congrArg Prod.snd h; simp only at h1; omega
theorem print_bare {p q : Pg} {S : Bs} (h : bareP p = bareP q) (nq : NumP q) (hq : printM q = (S, 0)) : printM p = (S, 0) := by
 obtain ⟨h1, h2, h3⟩ := print_good0 hq
 have h4 : (checkM p).2 = 0 := (check_bare p q h).trans h1
 have h5 := (text_iff p q h4 h1 (num_bare h nq) nq).2 h
 unfold printM
 rw [if_neg (by rw [h4]; decide), h5, if_neg (by omega), h2]
theorem print_same {p q : Pg} {S T : Bs} (np : NumP p) (nq : NumP q) (hp : printM p = (S, 0)) (hq : printM q = (T, 0)) : S = T ↔ bareP p = bareP q := by
 obtain ⟨h1, h2, _⟩ := print_good0 hp
 obtain ⟨h3, h4, _⟩ := print_good0 hq
 rw [h2, h4]; exact text_iff p q h1 h3 np nq

end Go.Proofs.YtoofbgoeipijcaaDoor

namespace Go.Proofs.YtoofbgoeipijcaaDoor
set_option linter.unusedSimpArgs false
set_option linter.unusedVariables false
open Go.RowKit Go.Shelf
attribute [local go_sem] Oper.semAt_some

theorem TB.poke {t : TypeId} {w : World} {k g o : Nat} {u : Value} (h : TB t w k) : TB t (w.setCell ⟨g, o, none⟩ u) k := by
 obtain ⟨cur, fz, h⟩ := h
 by_cases hk : k = g
 ·subst hk
  exact ⟨cur.setIfInBounds o u, fz, by simp only [World.setCell, Array.getElem?_modify]; rw [h]; simp⟩
 ·exact ⟨cur, fz, by rw [heap_ot hk]; exact h⟩
theorem TB.uni {s t : TypeId} {w : World} {k : Nat} (h : TB s w k) (h' : TB t w k) : s = t := by
 obtain ⟨c, f, h⟩ := h
 obtain ⟨c', f', h'⟩ := h'
 rw [h] at h'
 cases h'; rfl
/-- Each record is read anew, with the same shadow under f. -/
theorem Each.mapf {α β : Type} {K : EK α} {R R' : Nat → Prop} {w w' : World} (f : α → β) {css css' : List (List Value)} {l : List α} (h : Each K R w css l) (hl : css'.length = css.length)
  (hh : ∀ i (h : i < l.length) (h1 : i < css.length) (h2 : i < css'.length), K.E R w css[i] l[i] → ∃ x', K.E R' w' css'[i] x' ∧ f x' = f l[i]) : ∃ l', Each K R' w' css' l' ∧ l'.map f = l.map f := by
 have hx : ∀ i : Fin l.length, ∃ x', K.E R' w' (css'[i.1]'(by rw [hl, h.1]; exact i.2)) x' ∧ f x' = f l[i.1] := fun i => hh i.1 i.2 (by rw [h.1]; exact i.2) _ (h.2 i.1 i.2 _)
 refine ⟨List.ofFn fun i => (hx i).choose, ⟨by rw [List.length_ofFn, hl, h.1], fun i hi hi' => ?_⟩, ?_⟩
 ·rw [List.getElem_ofFn]
  exact (hx ⟨i, by simpa using hi⟩).choose_spec.1
 ·apply List.ext_getElem
  ·simp
  ·intro i h1 h2
   rw [List.getElem_map, List.getElem_map, List.getElem_ofFn]
   exact (hx ⟨i, by simpa using h1⟩).choose_spec.2
/-- One cell of an owned row, or of another block, is written over. -/
theorem OwT.poke {α β : Type} {K : EK α} {R : Nat → Prop} {e : TypeId} {w : World} {v : Value} {l : List α} (f : α → β) (h : OwT K R e w v l) (g o : Nat) (u : Value)
  (h0 : ∀ cs x, K.E R w cs x → ∃ x', K.E R (w.setCell ⟨g, o, none⟩ u) cs x' ∧ f x' = f x)
  (h1 : TB e w g → ∀ cs x, K.E R w cs x → ∃ x', K.E R (w.setCell ⟨g, o, none⟩ u) (cs.set (o % K.n) u) x' ∧ f x' = f x) :
  ∃ l', OwT K R e (w.setCell ⟨g, o, none⟩ u) v l' ∧ l'.map f = l.map f := by
 obtain ⟨css, hE, ⟨hlen, hrow⟩, hR⟩ := h
 have hE0 : ∃ l', Each K R (w.setCell ⟨g, o, none⟩ u) css l' ∧ l'.map f = l.map f := hE.mapf f rfl fun i _ _ _ hx => h0 _ _ hx
 have hll : ∀ {l' : List α}, l'.map f = l.map f → l'.length = l.length := fun b => by have := congrArg List.length b; simpa using this
 rcases hrow with ⟨rfl, hn⟩ | ⟨g2, cap, cur, rfl, hb, hg, h2, h3, h4, h5⟩
 ·obtain ⟨l', a, b⟩ := hE0
  exact ⟨l', ⟨css, a, ⟨by rw [hll b]; exact hlen, .inl ⟨rfl, by rw [hll b]; exact hn⟩⟩, hR⟩, b⟩
 ·by_cases hgg : g2 = g
  ·subst hgg
   by_cases hlt : o / K.n < css.length
   ·have hmod := Nat.mod_lt o K.pos
    have hdm : o / K.n * K.n + o % K.n = o := by rw [Nat.mul_comm]; exact Nat.div_add_mod o K.n
    obtain ⟨l', a, b⟩ := hE.mapf (R' := R) (w' := w.setCell ⟨g2, o, none⟩ u) (css' := css.set (o / K.n) ((css[o / K.n]).set (o % K.n) u)) f (by simp) fun i hi h1' h2' hx => by
     by_cases he : o / K.n = i
     ·subst he; rw [List.getElem_set_self]; exact h1 ⟨cur, _, hg⟩ _ _ hx
     ·rw [List.getElem_set_ne he]; exact h0 _ _ hx
    have hl := hll b
    refine ⟨l', ⟨_, a, ?_, hR⟩, b⟩
    rw [LenN.set hE.lens _ _ hlt hmod, hdm]
    refine ⟨by rw [List.length_set, hl]; exact hlen, .inr ⟨g2, cap, cur.setIfInBounds o u, by rw [hl], hb, heap_setCell_same _ _ _ _ _ _ hg, by rw [hl]; exact h2, h3, by rw [Array.size_setIfInBounds]; exact h4, ?_⟩⟩
    rw [hl, Array.toList_setIfInBounds, List.take_set, h5]
   ·obtain ⟨l', a, b⟩ := hE0
    have hl := hll b
    refine ⟨l', ⟨_, a, ⟨by rw [hl]; exact hlen, .inr ⟨g2, cap, cur.setIfInBounds o u, by rw [hl], hb, heap_setCell_same _ _ _ _ _ _ hg, by rw [hl]; exact h2, h3, by rw [Array.size_setIfInBounds]; exact h4, ?_⟩⟩, hR⟩, b⟩
    have hle : l.length * K.n ≤ o := (Nat.le_div_iff_mul_le K.pos).1 (by rw [← hE.1]; omega)
    rw [hl, Array.toList_setIfInBounds, List.take_set, h5, List.set_eq_of_length_le (by rw [hlen]; exact hle)]
  ·obtain ⟨l', a, b⟩ := hE0
   have hl := hll b
   exact ⟨l', ⟨_, a, ⟨by rw [hl]; exact hlen, .inr ⟨g2, cap, cur, by rw [hl], hb, by rw [heap_ot hgg]; exact hg, by rw [hl]; exact h2, h3, h4, by rw [hl]; exact h5⟩⟩, hR⟩, b⟩
/-- A cell that bears a part of a position. -/
def PosC (w : World) (g o : Nat) : Prop := (TB 26 w g ∧ (o % 7 = 5 ∨ o % 7 = 6)) ∨ (TB 45 w g ∧ (o % 5 = 3 ∨ o % 5 = 4))
theorem PosC.ne {w : World} {g o k : Nat} {t : TypeId} (h : PosC w g o) (ht : TB t w k) (h1 : t ≠ 26) (h2 : t ≠ 45) : k ≠ g := by
 rintro rfl
 rcases h with ⟨h, _⟩ | ⟨h, _⟩
 ·exact h1 (ht.uni h)
 ·exact h2 (ht.uni h)
theorem PosC.sl {α : Type} {K : EK α} {R : Nat → Prop} {w : World} {g o : Nat} {t : TypeId} {u v : Value} {l : List α} (hp : PosC w g o) (h : SlG K (fun k => R k ∧ TB t w k) w v l) (h1 : t ≠ 26) (h2 : t ≠ 45) : SlG K (fun k => R k ∧ TB t (w.setCell ⟨g, o, none⟩ u) k) (w.setCell ⟨g, o, none⟩ u) v l :=
 h.keep fun k hk => ⟨⟨hk.1, hk.2.poke⟩, heap_ot (hp.ne hk.2 h1 h2) _⟩
theorem in_poke {R : Nat → Prop} {w : World} {v : Value} {l : List In} {g o : Nat} (h : OwT kInT R 26 w v l) (hp : PosC w g o) (n : Int) :
  ∃ l', OwT kInT R 26 (w.setCell ⟨g, o, none⟩ (.int .i64 n)) v l' ∧ l'.map bareI = l.map bareI := by
 refine h.poke bareI g o _ ?_ ?_
 ·rintro cs x ⟨av, rfl, hs⟩
  exact ⟨x, ⟨av, rfl, hp.sl hs (by decide) (by decide)⟩, rfl⟩
 ·rintro ht cs x ⟨av, rfl, hs⟩
  have hs' := hp.sl (u := .int .i64 n) hs (by decide) (by decide)
  rcases hp with ⟨_, ho | ho⟩ | ⟨hf, _⟩
  ·rw [show o % kInT.n = 5 from ho]
   exact ⟨{ x with pos := (n, x.pos.2) }, ⟨av, rfl, hs'⟩, rfl⟩
  ·rw [show o % kInT.n = 6 from ho]
   exact ⟨{ x with pos := (x.pos.1, n) }, ⟨av, rfl, hs'⟩, rfl⟩
  ·exact absurd (ht.uni hf) (by decide)
theorem fu_poke {R : Nat → Prop} {w : World} {v : Value} {l : List Fu} {g o : Nat} (h : OwT kFuT R 45 w v l) (hp : PosC w g o) (n : Int) :
  ∃ l', OwT kFuT R 45 (w.setCell ⟨g, o, none⟩ (.int .i64 n)) v l' ∧ l'.map bareF = l.map bareF := by
 refine h.poke bareF g o _ ?_ ?_
 ·rintro cs x ⟨pv, cv, rfl, hq, hc⟩
  obtain ⟨lc, hc', hb⟩ := in_poke hc hp n
  exact ⟨{ x with code := lc }, ⟨pv, cv, rfl, hp.sl hq (by decide) (by decide), hc'⟩, by simp only [bareF, hb]⟩
 ·rintro ht cs x ⟨pv, cv, rfl, hq, hc⟩
  obtain ⟨lc, hc', hb⟩ := in_poke hc hp n
  have hq' := hp.sl (u := .int .i64 n) hq (by decide) (by decide)
  rcases hp with ⟨hf, _⟩ | ⟨_, ho | ho⟩
  ·exact absurd (ht.uni hf) (by decide)
  ·rw [show o % kFuT.n = 3 from ho]
   exact ⟨{ x with code := lc, pos := (n, x.pos.2) }, ⟨pv, cv, rfl, hq', hc'⟩, by simp only [bareF, hb]⟩
  ·rw [show o % kFuT.n = 4 from ho]
   exact ⟨{ x with code := lc, pos := (x.pos.1, n) }, ⟨pv, cv, rfl, hq', hc'⟩, by simp only [bareF, hb]⟩
theorem PosC.poke {w : World} {g o g' o' : Nat} {u : Value} (h : PosC w g o) : PosC (w.setCell ⟨g', o', none⟩ u) g o := h.imp (fun h => ⟨h.1.poke, h.2⟩) (fun h => ⟨h.1.poke, h.2⟩)
/-- A program whose rows are owned; its positions may be any. -/
structure PgW (R : Nat → Prop) (w : World) (a b c d : Value) (p : Pg) : Prop where
 chans : SlG kStr (fun k => R k ∧ TB 9 w k) w a p.chans
 arrays : SlG kAr (fun k => R k ∧ TB 53 w k) w b p.arrays
 funcs : ∃ l, OwT kFuT R 45 w c l ∧ l.map bareF = p.funcs.map bareF
 main : ∃ l, OwT kInT R 26 w d l ∧ l.map bareI = p.main.map bareI
theorem PgT.weak {B : Nat} {w : World} {a b c d : Value} {p : Pg} (h : PgT B w a b c d p) : PgW (fun k => B ≤ k ∧ k < w.heap.size) w a b c d p := ⟨h.chans, h.arrays, ⟨_, h.funcs, rfl⟩, ⟨_, h.main, rfl⟩⟩
theorem PgW.poke {R : Nat → Prop} {w : World} {a b c d : Value} {p : Pg} {g o : Nat} (h : PgW R w a b c d p) (hp : PosC w g o) (n : Int) : PgW R (w.setCell ⟨g, o, none⟩ (.int .i64 n)) a b c d p := by
 obtain ⟨lf, h3, e3⟩ := h.funcs
 obtain ⟨lm, h4, e4⟩ := h.main
 obtain ⟨lf', h3', e3'⟩ := fu_poke h3 hp n
 obtain ⟨lm', h4', e4'⟩ := in_poke h4 hp n
 exact ⟨hp.sl h.chans (by decide) (by decide), hp.sl h.arrays (by decide) (by decide), ⟨lf', h3', e3'.trans e3⟩, ⟨lm', h4', e4'.trans e4⟩⟩
theorem PgW.keep {R R' : Nat → Prop} {w w' : World} {a b c d : Value} {p : Pg} (h : PgW R w a b c d p) (hf : ∀ k, R k → R' k ∧ w'.heap[k]? = w.heap[k]?) : PgW R' w' a b c d p := by
 obtain ⟨lf, h3, e3⟩ := h.funcs
 obtain ⟨lm, h4, e4⟩ := h.main
 exact ⟨h.chans.keep fun k hk => ⟨⟨(hf k hk.1).1, hk.2.keep (hf k hk.1).2⟩, (hf k hk.1).2⟩, h.arrays.keep fun k hk => ⟨⟨(hf k hk.1).1, hk.2.keep (hf k hk.1).2⟩, (hf k hk.1).2⟩, ⟨lf, h3.keep hf, e3⟩, ⟨lm, h4.keep hf, e4⟩⟩
theorem OwT.slF {R : Nat → Prop} {e : TypeId} {w : World} {v : Value} {l : List Fu} (h : OwT kFuT R e w v l) (hl : l.length ≤ 140737488355328) (hc : ∀ x ∈ l, x.code.length ≤ 140737488355328) : SlG kFu R w v l := by
 obtain ⟨css, h1, h2, h3⟩ := h
 refine SlG.ofOwn (K := kFu) ⟨h1.1, fun i hi hi' => ?_⟩ h2 hl h3
 obtain ⟨pv, cv, e, hp, hcd⟩ := h1.2 i hi hi'
 exact ⟨pv, cv, e, hp.weaken fun _ hk => hk.1, hcd.sl (hc _ (List.getElem_mem hi))⟩
theorem PgW.strong {R : Nat → Prop} {w : World} {a b c d : Value} {p : Pg} (h : PgW R w a b c d p) (hl : LenP p) : ∃ p' : Pg, p'.width = p.width ∧ p'.chans = p.chans ∧ p'.arrays = p.arrays ∧ p'.funcs.length = p.funcs.length ∧ p'.main.length = p.main.length ∧ PgV R w a b c d p' ∧ bareP p' = bareP p := by
 obtain ⟨lf, h3, e3⟩ := h.funcs
 obtain ⟨lm, h4, e4⟩ := h.main
 have n3 : lf.length = p.funcs.length := by have := congrArg List.length e3; simpa using this
 have n4 : lm.length = p.main.length := by have := congrArg List.length e4; simpa using this
 refine ⟨{ p with funcs := lf, main := lm }, rfl, rfl, rfl, n3, n4, ⟨h.chans.weaken fun _ hk => hk.1, h.arrays.weaken fun _ hk => hk.1, h3.slF ?_ ?_, h4.sl ?_⟩, ?_⟩
 ·have := hl.funcs; rw [n3]; omega
 ·intro x hx
  obtain ⟨i, hi, rfl⟩ := List.mem_iff_getElem.1 hx
  have e : bareF lf[i] = bareF (p.funcs[i]'(by omega)) := by
   have := congrArg (fun l => l[i]?) e3
   simpa [hi, show i < p.funcs.length by omega] using this
  have e5 : lf[i].code.length = (p.funcs[i]'(by omega)).code.length := by have := congrArg (fun f : Fu => f.code.length) e; simpa [bareF] using this
  have := (hl.each _ (List.getElem_mem (by omega : i < p.funcs.length))).2.1
  show lf[i].code.length ≤ _
  omega
 ·have := hl.main.1; rw [n4]; omega
 ·show bareP _ = bareP _
  unfold bareP
  simp only [e3, e4]
/-- The cells of an owned row. -/
theorem OwT.at {α : Type} {K : EK α} {R : Nat → Prop} {e : TypeId} {w : World} {p : Option Addr} {n c : Nat} {l : List α} (h : OwT K R e w (.slice p n c) l) (hl : 0 < n) :
  ∃ b off, off = 0 ∧ p = some ⟨b, off, none⟩ ∧ l.length = n ∧ R b ∧ TB e w b ∧ (∀ o, w.frozen? ⟨b, o, none⟩ = false) ∧ ∀ k (hk : k < l.length), ∃ cs, K.E R w cs l[k] ∧ ∀ i u, cs[i]? = some u → w.cell? ⟨b, off + k * K.n + i, none⟩ = some u := by
 obtain ⟨css, h1, ⟨h2, h3⟩, h4⟩ := h
 rcases h3 with ⟨e, hn⟩ | ⟨g, cap, cur, e, hb, hg, h5, h6, h7, h8⟩
 ·cases e; omega
 ·cases e
  refine ⟨g, 0, rfl, rfl, rfl, h4 g rfl, ⟨cur, _, hg⟩, fun o => by simp [World.frozen?, hg], fun k hk => ?_⟩
  have hk' : k < css.length := by rw [h1.1]; exact hk
  refine ⟨css[k], h1.2 k hk hk', fun i u hu => ?_⟩
  have hi : i < K.n := by
   have := (List.getElem?_eq_some_iff.1 hu).1
   rwa [K.len (h1.2 k hk hk')] at this
  have hat := h1.lens.at k i hk' hi
  rw [hu, ← h8] at hat
  rw [List.getElem?_take] at hat
  split at hat
  ·simp only [World.cell?, hg, Nat.zero_add]
   simpa using hat
  ·cases hat

end Go.Proofs.YtoofbgoeipijcaaDoor
