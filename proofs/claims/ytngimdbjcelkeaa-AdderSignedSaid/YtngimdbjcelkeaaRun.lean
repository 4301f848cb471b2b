/-
  A law over two words of a circuit while it runs: what is carried from call to call.
-/
import Derived.Test.YtngimdbjcelkeaaLaw11
namespace Go.Proofs.Ytngimdbjcelkeaa
set_option linter.unusedSimpArgs false
set_option linter.unusedVariables false
open Go.RowKit Go.Shelf

/-- Block k of the law's own holds o. -/
def Own (bb : Nat) (w : World) (k : Nat) (o : Obj) : Prop := Away bb w k ∧ w.heap[k]? = some o
theorem Own.fr {bb k : Nat} {w w' : World} {o : Obj} (h : Own bb w k o) (hf : FrB bb w w') : Own bb w' k o := ⟨(hf.keep _ h.1).1, (hf.keep _ h.1).2.trans h.2⟩
theorem Own.lt {bb k : Nat} {w : World} {o : Obj} (h : Own bb w k o) : k < w.heap.size := (Array.getElem?_eq_some_iff.1 h.2).1

/-- The words xs, ys (bits ax, ay) of a circuit of 2 W inputs; at most V variables and K clauses are there. -/
structure Run (w0 : World) (bb W : Nat) (xs ys : List Int) (ax ay : List Bool) (vin vval vx vy va vb : Value) (V K : Nat) (w : World) (σ : Nat → Bool) (F : Form) : Prop where
  st : St w0 w bb (2 * W) σ F vin vval
  xl : xs.length = W
  yl : ys.length = W
  ox : ∀ x ∈ xs, okLit F.vars x = true
  oy : ∀ x ∈ ys, okLit F.vars x = true
  bx : xs.map (litT σ) = ax
  by' : ys.map (litT σ) = ay
  ix : Ints (Away bb w) w vx xs
  iy : Ints (Away bb w) w vy ys
  ia : Bools (Away bb w) w va ax
  ib : Bools (Away bb w) w vb ay
  v : F.vars ≤ V
  c : F.cls.length ≤ K

section
variable {w0 w w' : World} {bb W V K dv dc : Nat} {xs ys : List Int} {ax ay : List Bool} {vin vval vx vy va vb : Value} {σ σ' : Nat → Bool} {F F' : Form}
theorem Run.fr (h : Run w0 bb W xs ys ax ay vin vval vx vy va vb V K w σ F) (hb : Below w.heap.size w w') : Run w0 bb W xs ys ax ay vin vval vx vy va vb V K w' σ F :=
  have hf := FrB.of_below h.st.c.b hb
  ⟨h.st.below hb, h.xl, h.yl, h.ox, h.oy, h.bx, h.by', h.ix.fr hf, h.iy.fr hf, h.ia.fr hf, h.ib.fr hf, h.v, h.c⟩
theorem Run.step (h : Run w0 bb W xs ys ax ay vin vval vx vy va vb V K w σ F) (hf : FrB bb w w') (hC : Circ w' bb (2 * W) σ' F' vin vval) (hx : Ext (2 * W) σ F σ' F' dv dc) : Run w0 bb W xs ys ax ay vin vval vx vy va vb (V + dv) (K + dc) w' σ' F' :=
  ⟨h.st.step hf hC, h.xl, h.yl, ext_ok hx h.ox, ext_ok hx h.oy, (ext_bits hx h.ox).trans h.bx, (ext_bits hx h.oy).trans h.by', h.ix.fr hf, h.iy.fr hf, h.ia.fr hf, h.ib.fr hf, by have := hx.v1; have := h.v; omega, by have := hx.c1; have := h.c; omega⟩
/-- A circuit's box is laid. -/
theorem Run.box (h : Run w0 bb W xs ys ax ay vin vval vx vy va vb V K w σ F) (W' : World) (hW : w.alloc (.cells #[.pointer (some ⟨bb, 0, none⟩), vin, vval] 28) = W') :
    Run w0 bb W xs ys ax ay vin vval vx vy va vb V K W' σ F ∧ Own bb W' w.heap.size (.cells #[.pointer (some ⟨bb, 0, none⟩), vin, vval] 28 (0, 0)) ∧ W'.heap.size = w.heap.size + 1 ∧ FrB bb w W' := by
  subst hW
  have hb : Below w.heap.size w (w.alloc (.cells #[.pointer (some ⟨bb, 0, none⟩), vin, vval] 28)) := (Below.refl _ _).alloc (Nat.le_refl _) _
  exact ⟨h.fr hb, ⟨h.st.c.b.away_new hb (Nat.le_refl _) (by simp), by rw [heap_al, if_pos rfl]⟩, by simp only [World.size_alloc], FrB.of_below h.st.c.b hb⟩
end

/-- Literal z is there, and b. -/
def LitIs (σ : Nat → Bool) (F : Form) (z : Int) (b : Bool) : Prop := okLit F.vars z = true ∧ litT σ z = b
theorem LitIs.ext {n : Nat} {σ σ' : Nat → Bool} {F F' : Form} {z : Int} {b : Bool} {dv dc : Nat} (h : LitIs σ F z b) (hx : Ext n σ F σ' F' dv dc) : LitIs σ' F' z b := ⟨hx.ok h.1, (hx.litT h.1).trans h.2⟩
/-- The literals zs are there, and bs. -/
def LitsAre (σ : Nat → Bool) (F : Form) (zs : List Int) (bs : List Bool) : Prop := (∀ x ∈ zs, okLit F.vars x = true) ∧ zs.map (litT σ) = bs
theorem LitsAre.ext {n : Nat} {σ σ' : Nat → Bool} {F F' : Form} {zs : List Int} {bs : List Bool} {dv dc : Nat} (h : LitsAre σ F zs bs) (hx : Ext n σ F σ' F' dv dc) : LitsAre σ' F' zs bs := ⟨ext_ok hx h.1, (ext_bits hx h.1).trans h.2⟩
theorem LitsAre.len {σ : Nat → Bool} {F : Form} {zs : List Int} {bs : List Bool} (h : LitsAre σ F zs bs) : zs.length = bs.length := by rw [← h.2, List.length_map]

section
variable {w0 w : World} {bb W V K : Nat} {xs ys : List Int} {ax ay : List Bool} {vin vval vx vy va vb : Value} {σ : Nat → Bool} {F : Form} (h : Run w0 bb W xs ys ax ay vin vval vx vy va vb V K w σ F) (h1 : 1 ≤ W) (h64 : W ≤ 64)
include h h1 h64

/-- What a call that answers with a literal leaves. -/
def RunL (w0 : World) (bb W : Nat) (xs ys : List Int) (ax ay : List Bool) (vin vval vx vy va vb : Value) (V K : Nat) (w : World) (σ : Nat → Bool) (F : Form) (b : Bool) (dv dc : Nat) (e : Ending) (w' : World) : Prop :=
  ∃ z σ' F', e = .returned (.tuple #[.int .i64 z, .int .i64 0]) ∧ Run w0 bb W xs ys ax ay vin vval vx vy va vb (V + dv) (K + dc) w' σ' F' ∧ LitIs σ' F' z b ∧ FrB bb w w' ∧ Ext (2 * W) σ F σ' F' dv dc
/-- What a call that answers with a word leaves. -/
def RunW (w0 : World) (bb W : Nat) (xs ys : List Int) (ax ay : List Bool) (vin vval vx vy va vb : Value) (V K : Nat) (w : World) (σ : Nat → Bool) (F : Form) (bs : List Bool) (dv dc : Nat) (e : Ending) (w' : World) : Prop :=
  ∃ v zs σ' F', e = .returned (.tuple #[v, .int .i64 0]) ∧ Run w0 bb W xs ys ax ay vin vval vx vy va vb (V + dv) (K + dc) w' σ' F' ∧ Ints (Away bb w') w' v zs ∧ LitsAre σ' F' zs bs ∧ FrB bb w w' ∧ Ext (2 * W) σ F σ' F' dv dc
omit h1 h64 in
theorem Run.lit {b : Bool} {dv dc : Nat} {e : Ending} {w' : World} (hp : LC bb (2 * W) σ F vin vval w b dv dc e w') : RunL w0 bb W xs ys ax ay vin vval vx vy va vb V K w σ F b dv dc e w' := by
  obtain ⟨z, σ', F', he, hC, hok, hb, hf, hx⟩ := hp
  exact ⟨z, σ', F', he, h.step hf hC hx, ⟨hok, hb⟩, hf, hx⟩
omit h1 h64 in
theorem Run.word {bs : List Bool} {dv dc : Nat} {e : Ending} {w' : World} (hp : WC bb (2 * W) σ F vin vval w bs dv dc e w') : RunW w0 bb W xs ys ax ay vin vval vx vy va vb V K w σ F bs dv dc e w' := by
  obtain ⟨v, zs, σ', F', he, hC, hi, hok, hb, hf, hx⟩ := hp
  exact ⟨v, zs, σ', F', he, h.step hf hC hx, hi, ⟨hok, hb⟩, hf, hx⟩

theorem Run.equal (hV : V + 2 * W < 1048576) (hK : K + 12 * W ≤ 1048576) :
    Calls Try.prog 33 #[.pointer (some ⟨bb, 0, none⟩), vx, vy] w (RunL w0 bb W xs ys ax ay vin vval vx vy va vb V K w σ F (decide (ax = ay)) (2 * W) (12 * W)) := by
  have e := h.xl
  have := h.v; have := h.c
  have hc := equal_c h.st.c (by omega) (by omega) (by rw [h.xl, h.yl]) h.ox h.oy h.ix h.iy (by omega) (by omega)
  rw [h.bx, h.by', h.xl] at hc
  exact hc.mono fun _ _ hp => h.lit hp
theorem Run.less (sg : Bool) (hV : V + 2 * W < 1048576) (hK : K + 12 * W ≤ 1048576) :
    Calls Try.prog 32 #[.pointer (some ⟨bb, 0, none⟩), vx, vy, .bool sg] w (RunL w0 bb W xs ys ax ay vin vval vx vy va vb V K w σ F (lessS ax ay sg) (2 * W) (12 * W)) := by
  have e := h.xl
  have := h.v; have := h.c
  have hc := less_c h.st.c (by omega) (by omega) (by rw [h.xl, h.yl]) h.ox h.oy h.ix h.iy sg (by omega) (by omega)
  rw [h.bx, h.by', h.xl] at hc
  exact hc.mono fun _ _ hp => h.lit hp
theorem Run.more (sg : Bool) (hV : V + 2 * W < 1048576) (hK : K + 12 * W ≤ 1048576) :
    Calls Try.prog 32 #[.pointer (some ⟨bb, 0, none⟩), vy, vx, .bool sg] w (RunL w0 bb W xs ys ax ay vin vval vx vy va vb V K w σ F (lessS ay ax sg) (2 * W) (12 * W)) := by
  have e := h.yl
  have := h.v; have := h.c
  have hc := less_c h.st.c (by omega) (by omega) (by rw [h.xl, h.yl]) h.oy h.ox h.iy h.ix sg (by omega) (by omega)
  rw [h.bx, h.by', h.yl] at hc
  exact hc.mono fun _ _ hp => h.lit hp
theorem Run.any (hV : V + 2 * W < 1048576) (hK : K + 12 * W ≤ 1048576) :
    Calls Try.prog 44 #[.pointer (some ⟨bb, 0, none⟩), vx] w (RunL w0 bb W xs ys ax ay vin vval vx vy va vb V K w σ F (ax.any id) (2 * W) (12 * W)) := by
  have e := h.xl
  have := h.v; have := h.c
  have hc := any_c h.st.c (by omega) (by omega) h.ox h.ix (by omega) (by omega)
  rw [h.bx, h.xl] at hc
  exact hc.mono fun _ _ hp => h.lit hp
theorem Run.choose {z : Int} {b : Bool} (hz : LitIs σ F z b) (hV : V + W < 1048576) (hK : K + 6 * W ≤ 1048576) :
    Calls Try.prog 43 #[.pointer (some ⟨bb, 0, none⟩), .int .i64 z, vx, vy] w (RunW w0 bb W xs ys ax ay vin vval vx vy va vb V K w σ F (chooseB b ax ay) W (6 * W)) := by
  have e := h.xl
  have := h.v; have := h.c
  have hc := choose_c h.st.c (by omega) (by omega) (by rw [h.xl, h.yl]) h.ox h.oy h.ix h.iy hz.1 (by omega) (by omega)
  rw [h.bx, h.by', h.xl, hz.2] at hc
  exact hc.mono fun _ _ hp => h.word hp
theorem Run.add {z : Int} {b : Bool} (hz : LitIs σ F z b) (hV : V + 3 * W < 1048576) (hK : K + 18 * W ≤ 1048576) :
    Calls Try.prog 25 #[.pointer (some ⟨bb, 0, none⟩), vx, vy, .int .i64 z] w (RunW w0 bb W xs ys ax ay vin vval vx vy va vb V K w σ F (addB ax ay b) (3 * W) (18 * W)) := by
  have e := h.xl
  have := h.v; have := h.c
  have hc := add_c h.st.c (by omega) (by omega) (by rw [h.xl, h.yl]) h.ox h.oy h.ix h.iy hz.1 (by omega) (by omega)
  rw [h.bx, h.by', h.xl, hz.2] at hc
  exact hc.mono fun _ _ hp => h.word hp
theorem Run.sub (hV : V + 3 * W < 1048576) (hK : K + 18 * W ≤ 1048576) :
    Calls Try.prog 26 #[.pointer (some ⟨bb, 0, none⟩), vx, vy] w (RunW w0 bb W xs ys ax ay vin vval vx vy va vb V K w σ F (addB ax (ay.map (!·)) true) (3 * W) (18 * W)) := by
  have e := h.xl
  have := h.v; have := h.c
  have hc := sub_c h.st.c (by omega) (by omega) (by rw [h.xl, h.yl]) h.ox h.oy h.ix h.iy (by omega) (by omega)
  rw [h.bx, h.by', h.xl] at hc
  exact hc.mono fun _ _ hp => h.word hp
end

section
variable {Fe : Fence} {n : Nat} {P : Program} {ops : Array Oper} {Q : Exit → Act → World → Prop} {md : Region.Mode} {S : World → Prop}
/-- Two may come up: either way. -/
theorem wpHJ_two (i j : Nat) {z : Nat} {oi oj : Oper} {fuel : Nat} {listed : Array Bool} {a : Act} {w : World} (hr : Region.ready md ops listed = [i, j]) (hi : ops[i]? = some oi) (hj : ops[j]? = some oj)
    (h : ∀ K : Act → World → Prop, (∀ a' w', (i = z ∨ listed.getD z false = true ∨ S w') → wpHJ Fe n P md ops Q S z fuel (listed.setIfInBounds i true) a' w' → K a' w') →
      if Region.wanted oi (yielded ops a.tmps) then oi.wpIn Fe n P a w K Q else (∀ f, oi.about P w a.eval = some f → Fe.fn f) ∧ K (a.put oi.dst undef) w)
    (h' : ∀ K : Act → World → Prop, (∀ a' w', (j = z ∨ listed.getD z false = true ∨ S w') → wpHJ Fe n P md ops Q S z fuel (listed.setIfInBounds j true) a' w' → K a' w') →
      if Region.wanted oj (yielded ops a.tmps) then oj.wpIn Fe n P a w K Q else (∀ f, oj.about P w a.eval = some f → Fe.fn f) ∧ K (a.put oj.dst undef) w) :
    wpHJ Fe n P md ops Q S z (fuel + 1) listed a w := by
  refine ⟨fun h0 => (by rw [h0] at hr; cases hr), fun k hk => ?_⟩
  rw [hr] at hk
  simp only [List.mem_cons, List.not_mem_nil, or_false] at hk
  rcases hk with rfl | rfl
  · unfold wpOpIn
    simp only [hi]
    exact h _ (fun a' w' h1 h2 => ⟨h1, h2⟩)
  · unfold wpOpIn
    simp only [hj]
    exact h' _ (fun a' w' h1 h2 => ⟨h1, h2⟩)
end
end Go.Proofs.Ytngimdbjcelkeaa
