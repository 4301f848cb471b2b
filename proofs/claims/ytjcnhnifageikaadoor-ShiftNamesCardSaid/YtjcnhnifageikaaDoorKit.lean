/-
  A law over two words of a circuit while it runs: what is carried from call to call.
  More about a law over two words of a circuit while it runs: sums of other words; Mask; the values.
  What a law over a circuit carries from call to call: its words and literals, the circuit's box.
  The facts that end the walk of AdderAgain: the values of its words, and how they compare.
  More for laws over a circuit: comparisons and choices of any of its words; what is known of a literal; the law's closure 'turn'.
  A circuit while a law runs (any number of inputs): the adder's functions over any of its words.
-/
import Derived.Test.YtjcnhnifageikaaDoorLaw11
import Derived.Laws.BitsLemmas
import Derived.Laws.Bits64
import Derived.Laws.OwnMore
namespace Go.Proofs.YtjcnhnifageikaaDoor
set_option linter.unusedSimpArgs false
set_option linter.unusedVariables false
open Go.RowKit Go.Shelf

/-- Block k of the law's own holds o. -/
def Own (bb : Nat) (w : World) (k : Nat) (o : Obj) : Prop := Away bb w k ∧ w.heap[k]? = some o
theorem Own.fr {bb k : Nat} {w w' : World} {o : Obj} (h : Own bb w k o) (hf : FrB bb w w') : Own bb w' k o := ⟨(hf.keep _ h.1).1, (hf.keep _ h.1).2.trans h.2⟩
theorem Own.lt {bb k : Nat} {w : World} {o : Obj} (h : Own bb w k o) : k < w.heap.size := (Array.getElem?_eq_some_iff.1 h.2).1

/-- The words xs, ys (bits ax, ay) of a circuit of 2 W inputs; at most V variables and K clauses are there. -/
structure Run (w0 : World) (bb W : Nat) (xs ys : List Int) (ax ay : List Bool) (vin vval vx vy va vb : Value) (V K : Nat) (w : World) (σ : Nat → Bool) (F : Form) : Prop where
  st : St w0 w bb (2 * W) σ F vin vval
  xl : xs.length = W
  yl : ys.length = W
  ox : ∀ x ∈ xs, okLit F.vars x = true
  oy : ∀ x ∈ ys, okLit F.vars x = true
  bx : xs.map (litT σ) = ax
  by' : ys.map (litT σ) = ay
  ix : Ints (Away bb w) w vx xs
  iy : Ints (Away bb w) w vy ys
  ia : Bools (Away bb w) w va ax
  ib : Bools (Away bb w) w vb ay
  v : F.vars ≤ V
  c : F.cls.length ≤ K

section
variable {w0 w w' : World} {bb W V K dv dc : Nat} {xs ys : List Int} {ax ay : List Bool} {vin vval vx vy va vb : Value} {σ σ' : Nat → Bool} {F F' : Form}
theorem Run.fr (h : Run w0 bb W xs ys ax ay vin vval vx vy va vb V K w σ F) (hb : Below w.heap.size w w') : Run w0 bb W xs ys ax ay vin vval vx vy va vb V K w' σ F :=
  have hf := FrB.of_below h.st.c.b hb
  ⟨h.st.below hb, h.xl, h.yl, h.ox, h.oy, h.bx, h.by', h.ix.fr hf, h.iy.fr hf, h.ia.fr hf, h.ib.fr hf, h.v, h.c⟩
theorem Run.step (h : Run w0 bb W xs ys ax ay vin vval vx vy va vb V K w σ F) (hf : FrB bb w w') (hC : Circ w' bb (2 * W) σ' F' vin vval) (hx : Ext (2 * W) σ F σ' F' dv dc) : Run w0 bb W xs ys ax ay vin vval vx vy va vb (V + dv) (K + dc) w' σ' F' :=
  ⟨h.st.step hf hC, h.xl, h.yl, ext_ok hx h.ox, ext_ok hx h.oy, (ext_bits hx h.ox).trans h.bx, (ext_bits hx h.oy).trans h.by', h.ix.fr hf, h.iy.fr hf, h.ia.fr hf, h.ib.fr hf, by have := hx.v1; have := h.v; omega, by have := hx.c1; have := h.c; omega⟩
/-- A circuit's box is laid. -/
theorem Run.box (h : Run w0 bb W xs ys ax ay vin vval vx vy va vb V K w σ F) (W' : World) (hW : w.alloc (.cells #[.pointer (some ⟨bb, 0, none⟩), vin, vval] 30) = W') :
    Run w0 bb W xs ys ax ay vin vval vx vy va vb V K W' σ F ∧ Own bb W' w.heap.size (.cells #[.pointer (some ⟨bb, 0, none⟩), vin, vval] 30 (0, 0)) ∧ W'.heap.size = w.heap.size + 1 ∧ FrB bb w W' := by
  subst hW
  have hb : Below w.heap.size w (w.alloc (.cells #[.pointer (some ⟨bb, 0, none⟩), vin, vval] 30)) := (Below.refl _ _).alloc (Nat.le_refl _) _
  exact ⟨h.fr hb, ⟨h.st.c.b.away_new hb (Nat.le_refl _) (by simp), by rw [heap_al, if_pos rfl]⟩, by simp only [World.size_alloc], FrB.of_below h.st.c.b hb⟩
end

/-- Literal z is there, and b. -/
def LitIs (σ : Nat → Bool) (F : Form) (z : Int) (b : Bool) : Prop := okLit F.vars z = true ∧ litT σ z = b
theorem LitIs.ext {n : Nat} {σ σ' : Nat → Bool} {F F' : Form} {z : Int} {b : Bool} {dv dc : Nat} (h : LitIs σ F z b) (hx : Ext n σ F σ' F' dv dc) : LitIs σ' F' z b := ⟨hx.ok h.1, (hx.litT h.1).trans h.2⟩
/-- The literals zs are there, and bs. -/
def LitsAre (σ : Nat → Bool) (F : Form) (zs : List Int) (bs : List Bool) : Prop := (∀ x ∈ zs, okLit F.vars x = true) ∧ zs.map (litT σ) = bs
theorem LitsAre.ext {n : Nat} {σ σ' : Nat → Bool} {F F' : Form} {zs : List Int} {bs : List Bool} {dv dc : Nat} (h : LitsAre σ F zs bs) (hx : Ext n σ F σ' F' dv dc) : LitsAre σ' F' zs bs := ⟨ext_ok hx h.1, (ext_bits hx h.1).trans h.2⟩
theorem LitsAre.len {σ : Nat → Bool} {F : Form} {zs : List Int} {bs : List Bool} (h : LitsAre σ F zs bs) : zs.length = bs.length := by rw [← h.2, List.length_map]

section
variable {w0 w : World} {bb W V K : Nat} {xs ys : List Int} {ax ay : List Bool} {vin vval vx vy va vb : Value} {σ : Nat → Bool} {F : Form} (h : Run w0 bb W xs ys ax ay vin vval vx vy va vb V K w σ F) (h1 : 1 ≤ W) (h64 : W ≤ 64)
include h h1 h64

/-- What a call that answers with a literal leaves. -/
def RunL (w0 : World) (bb W : Nat) (xs ys : List Int) (ax ay : List Bool) (vin vval vx vy va vb : Value) (V K : Nat) (w : World) (σ : Nat → Bool) (F : Form) (b : Bool) (dv dc : Nat) (e : Ending) (w' : World) : Prop :=
  ∃ z σ' F', e = .returned (.tuple #[.int .i64 z, .int .i64 0]) ∧ Run w0 bb W xs ys ax ay vin vval vx vy va vb (V + dv) (K + dc) w' σ' F' ∧ LitIs σ' F' z b ∧ FrB bb w w' ∧ Ext (2 * W) σ F σ' F' dv dc
/-- What a call that answers with a word leaves. -/
def RunW (w0 : World) (bb W : Nat) (xs ys : List Int) (ax ay : List Bool) (vin vval vx vy va vb : Value) (V K : Nat) (w : World) (σ : Nat → Bool) (F : Form) (bs : List Bool) (dv dc : Nat) (e : Ending) (w' : World) : Prop :=
  ∃ v zs σ' F', e = .returned (.tuple #[v, .int .i64 0]) ∧ Run w0 bb W xs ys ax ay vin vval vx vy va vb (V + dv) (K + dc) w' σ' F' ∧ Ints (Away bb w') w' v zs ∧ LitsAre σ' F' zs bs ∧ FrB bb w w' ∧ Ext (2 * W) σ F σ' F' dv dc
omit h1 h64 in
theorem Run.lit {b : Bool} {dv dc : Nat} {e : Ending} {w' : World} (hp : LC bb (2 * W) σ F vin vval w b dv dc e w') : RunL w0 bb W xs ys ax ay vin vval vx vy va vb V K w σ F b dv dc e w' := by
  obtain ⟨z, σ', F', he, hC, hok, hb, hf, hx⟩ := hp
  exact ⟨z, σ', F', he, h.step hf hC hx, ⟨hok, hb⟩, hf, hx⟩
omit h1 h64 in
theorem Run.word {bs : List Bool} {dv dc : Nat} {e : Ending} {w' : World} (hp : WC bb (2 * W) σ F vin vval w bs dv dc e w') : RunW w0 bb W xs ys ax ay vin vval vx vy va vb V K w σ F bs dv dc e w' := by
  obtain ⟨v, zs, σ', F', he, hC, hi, hok, hb, hf, hx⟩ := hp
  exact ⟨v, zs, σ', F', he, h.step hf hC hx, hi, ⟨hok, hb⟩, hf, hx⟩

theorem Run.choose {z : Int} {b : Bool} (hz : LitIs σ F z b) (hV : V + W < 1048576) (hK : K + 6 * W ≤ 1048576) :
    Calls Tryd.prog 23 #[.pointer (some ⟨bb, 0, none⟩), .int .i64 z, vx, vy] w (RunW w0 bb W xs ys ax ay vin vval vx vy va vb V K w σ F (chooseB b ax ay) W (6 * W)) := by
  have e := h.xl
  have := h.v; have := h.c
  have hc := choose_c h.st.c (by omega) (by omega) (by rw [h.xl, h.yl]) h.ox h.oy h.ix h.iy hz.1 (by omega) (by omega)
  rw [h.bx, h.by', h.xl, hz.2] at hc
  exact hc.mono fun _ _ hp => h.word hp
end

section
variable {Fe : Fence} {n : Nat} {P : Program} {ops : Array Oper} {Q : Exit → Act → World → Prop} {md : Region.Mode} {S : World → Prop}
/-- Two may come up: either way. -/
theorem wpHJ_two (i j : Nat) {z : Nat} {oi oj : Oper} {fuel : Nat} {listed : Array Bool} {a : Act} {w : World} (hr : Region.ready md ops listed = [i, j]) (hi : ops[i]? = some oi) (hj : ops[j]? = some oj)
    (h : ∀ K : Act → World → Prop, (∀ a' w', (i = z ∨ listed.getD z false = true ∨ S w') → wpHJ Fe n P md ops Q S z fuel (listed.setIfInBounds i true) a' w' → K a' w') →
      if Region.wanted oi (yielded ops a.tmps) then oi.wpIn Fe n P a w K Q else (∀ f, oi.about P w a.eval = some f → Fe.fn f) ∧ K (a.put oi.dst undef) w)
    (h' : ∀ K : Act → World → Prop, (∀ a' w', (j = z ∨ listed.getD z false = true ∨ S w') → wpHJ Fe n P md ops Q S z fuel (listed.setIfInBounds j true) a' w' → K a' w') →
      if Region.wanted oj (yielded ops a.tmps) then oj.wpIn Fe n P a w K Q else (∀ f, oj.about P w a.eval = some f → Fe.fn f) ∧ K (a.put oj.dst undef) w) :
    wpHJ Fe n P md ops Q S z (fuel + 1) listed a w := by
  refine ⟨fun h0 => (by rw [h0] at hr; cases hr), fun k hk => ?_⟩
  rw [hr] at hk
  simp only [List.mem_cons, List.not_mem_nil, or_false] at hk
  rcases hk with rfl | rfl
  · unfold wpOpIn
    simp only [hi]
    exact h _ (fun a' w' h1 h2 => ⟨h1, h2⟩)
  · unfold wpOpIn
    simp only [hj]
    exact h' _ (fun a' w' h1 h2 => ⟨h1, h2⟩)
end
end Go.Proofs.YtjcnhnifageikaaDoor

namespace Go.Proofs.YtjcnhnifageikaaDoor
set_option linter.unusedSimpArgs false
set_option linter.unusedVariables false
open Go.RowKit Go.Shelf

section
variable {w0 w : World} {bb W V K : Nat} {xs ys : List Int} {ax ay : List Bool} {vin vval vx vy va vb : Value} {σ : Nat → Bool} {F : Form} (h : Run w0 bb W xs ys ax ay vin vval vx vy va vb V K w σ F) (h1 : 1 ≤ W) (h64 : W ≤ 64)
  {vp vq : Value} {ps qs : List Int} {bp bq : List Bool} (ip : Ints (Away bb w) w vp ps) (iq : Ints (Away bb w) w vq qs) (hp : LitsAre σ F ps bp) (hq : LitsAre σ F qs bq) (lp : bp.length = W) (lq : bq.length = W)
include h h1 h64 ip iq hp hq lp lq
end

/-- A sum's difference is the word. -/
theorem sub_add (ax ay : List Bool) (h : ay.length = ax.length) : addB (addB ax ay false) (ay.map (!·)) true = ax := by
  have h1 := addB_len ax ay false h.symm
  have h2 := addB_len (addB ax ay false) (ay.map (!·)) true (by rw [List.length_map, h1, h])
  have hn := notB_val ay
  have ha := valB_lt ax
  have hb := valB_lt ay
  have e1 := addB_val ax ay false h.symm
  have e2 := addB_val (addB ax ay false) (ay.map (!·)) true (by rw [List.length_map, h1, h])
  refine valB_inj (by rw [h2, h1]) ?_
  rw [e2, h1, e1]
  rw [h] at hn hb
  simp only [Bool.toNat_false, Bool.toNat_true, Nat.add_zero]
  rw [Nat.add_assoc, Nat.mod_add_mod]
  have e : valB ax + valB ay + (valB (ay.map (!·)) + 1) = valB ax + 2 ^ ax.length := by omega
  rw [e, Nat.add_mod_right, Nat.mod_eq_of_lt ha]

/-- A mask of n ones, over a u64. -/
theorem and_mask (x : Int) (n : Nat) (hn : n ≤ 64) : bits .and .u64 (IntKind.u64.wrap x) ((2 ^ n - 1 : Nat) : Int) = x % (2 ^ n : Nat) := by
  have hw : ∀ m : Int, 0 ≤ m → m < 2 ^ 64 → IntKind.u64.wrap m = m := fun m h0 h1 => by
    rw [IntKind.wrap_u64]
    have e : (2 : Int) ^ 64 = 18446744073709551616 := by decide
    omega
  have hc : ((2 ^ n - 1 : Nat) : Int) = 2 ^ n - 1 := by
    have : 1 ≤ 2 ^ n := Nat.one_le_two_pow
    rw [Int.natCast_sub this]; simp
  have hr : (0 : Int) ≤ IntKind.u64.wrap x ∧ IntKind.u64.wrap x < 2 ^ 64 := by
    rw [IntKind.wrap_u64]
    have e : (2 : Int) ^ 64 = 18446744073709551616 := by decide
    omega
  rw [hc, bits_mask .u64 64 (by decide) hw n hn _ hr.1 hr.2, IntKind.wrap_u64]
  have e : (18446744073709551616 : Int) = 2 ^ n * 2 ^ (64 - n) := by
    rw [← Int.pow_add]
    have : n + (64 - n) = 64 := by omega
    rw [this]; decide
  rw [Int.emod_emod_of_dvd _ ⟨2 ^ (64 - n), e⟩]
  simp
end Go.Proofs.YtjcnhnifageikaaDoor

namespace Go.Proofs.YtjcnhnifageikaaDoor
set_option linter.unusedSimpArgs false
set_option linter.unusedVariables false
open Go.RowKit Go.Shelf

/-- The words ws and the literals ls are there, with their bits. -/
structure Kit (bb : Nat) (w : World) (σ : Nat → Bool) (F : Form) (ws : List (Value × List Int × List Bool)) (ls : List (Int × Bool)) : Prop where
  w : ∀ x ∈ ws, Ints (Away bb w) w x.1 x.2.1 ∧ LitsAre σ F x.2.1 x.2.2
  l : ∀ x ∈ ls, LitIs σ F x.1 x.2
section
variable {bb n dv dc : Nat} {w w' : World} {σ σ' : Nat → Bool} {F F' : Form} {ws : List (Value × List Int × List Bool)} {ls : List (Int × Bool)}
theorem Kit.nil : Kit bb w σ F [] [] := ⟨(fun _ h => by cases h), (fun _ h => by cases h)⟩
theorem Kit.step (h : Kit bb w σ F ws ls) (hf : FrB bb w w') (hx : Ext n σ F σ' F' dv dc) : Kit bb w' σ' F' ws ls :=
  ⟨fun x hx' => ⟨(h.w x hx').1.fr hf, (h.w x hx').2.ext hx⟩, fun x hx' => (h.l x hx').ext hx⟩
theorem Kit.fr (h : Kit bb w σ F ws ls) (hf : FrB bb w w') : Kit bb w' σ F ws ls :=
  ⟨fun x hx' => ⟨(h.w x hx').1.fr hf, (h.w x hx').2⟩, h.l⟩
theorem Kit.word (h : Kit bb w σ F ws ls) {v : Value} {zs : List Int} {bs : List Bool} (h1 : Ints (Away bb w) w v zs) (h2 : LitsAre σ F zs bs) : Kit bb w σ F ((v, zs, bs) :: ws) ls :=
  ⟨(fun x hx => (List.mem_cons.1 hx).elim (fun e => by subst e; exact ⟨h1, h2⟩) (h.w x)), h.l⟩
theorem Kit.lit (h : Kit bb w σ F ws ls) {z : Int} {b : Bool} (h1 : LitIs σ F z b) : Kit bb w σ F ws ((z, b) :: ls) :=
  ⟨h.w, (fun x hx => (List.mem_cons.1 hx).elim (fun e => by subst e; exact h1) (h.l x))⟩
end

theorem Ints.row {R : Nat → Prop} {w : World} {p : Option Addr} {n c : Nat} {xs : List Int} (h : Ints R w (.slice p n c) xs) : RowR R w p (xs.map (Value.int .i64)) := by
  obtain ⟨p', c', e, _, _, _, hr⟩ := h.op
  injection e with e1
  subst e1
  exact hr
theorem Bools.row {R : Nat → Prop} {w : World} {p : Option Addr} {n c : Nat} {xs : List Bool} (h : Bools R w (.slice p n c) xs) : RowR R w p (xs.map Value.bool) := by
  obtain ⟨p', c', e, _, _, _, hr⟩ := h.op
  injection e with e1
  subst e1
  exact hr
theorem wrap_m1 : IntKind.i64.wrap (-1) = -1 := by decide

/-- The box of a circuit at block k. -/
def BoxS (k : Nat) (a b c : Value) (W' : World) : Prop := W'.cell? ⟨k, 0, none⟩ = some a ∧ W'.cell? ⟨k, 1, none⟩ = some b ∧ W'.cell? ⟨k, 2, none⟩ = some c
theorem BoxS.of {w : World} {k : Nat} {a b c : Value} {t : TypeId} (h : w.heap[k]? = some (.cells #[a, b, c] t (0, 0))) : BoxS k a b c w :=
  ⟨by rw [cell_of_cells h]; rfl, by rw [cell_of_cells h]; rfl, by rw [cell_of_cells h]; rfl⟩
theorem Own.boxS {bb k : Nat} {w : World} {a b c : Value} {t : TypeId} (h : Own bb w k (.cells #[a, b, c] t (0, 0))) : BoxS k a b c w := BoxS.of h.2
theorem BoxS.drew {k : Nat} {a b c : Value} {w : World} (h : BoxS k a b c w) : BoxS k a b c w.drew := h
theorem BoxS.below {B k : Nat} {a b c : Value} {w w' : World} (h : BoxS k a b c w) (hb : Below B w w') (hk : k < B) : BoxS k a b c w' :=
  ⟨(hb.cell (p := ⟨k, 0, none⟩) hk).trans h.1, (hb.cell (p := ⟨k, 1, none⟩) hk).trans h.2.1, (hb.cell (p := ⟨k, 2, none⟩) hk).trans h.2.2⟩
theorem below_tr' {B : Nat} {a b c : World} (h : Below B a b) (k : Below b.heap.size b c) (hB : B ≤ a.heap.size) : Below B a c :=
  ⟨k.os.trans h.os, k.tape.trans h.tape, k.output.trans h.output, Nat.le_trans h.size k.size, fun i hi => (k.block i (Nat.lt_of_lt_of_le hi (Nat.le_trans hB h.size))).trans (h.block i hi)⟩

theorem Run.fr0 {w0 w w' : World} {bb W V K : Nat} {xs ys : List Int} {ax ay : List Bool} {vin vval vx vy va vb : Value} {σ : Nat → Bool} {F : Form} (h : Run w0 bb W xs ys ax ay vin vval vx vy va vb V K w σ F) (hf : FrB bb w w') :
    Ints (Away bb w') w' vx xs ∧ Ints (Away bb w') w' vy ys := ⟨h.ix.fr hf, h.iy.fr hf⟩

/-- Only draws. -/
def Quiet (w w' : World) : Prop := ∃ m, w' = w.drewN m
theorem Quiet.refl (w : World) : Quiet w w := ⟨0, rfl⟩
theorem Quiet.below {w0 w w' : World} {B : Nat} (h : Quiet w w') (hb : Below B w0 w) : Below B w0 w' := by obtain ⟨m, rfl⟩ := h; exact below_drewN hb _

/-- The value of a word that is there. -/
theorem Kit.value {bb : Nat} {w w1 : World} {σ : Nat → Bool} {F : Form} {ws : List (Value × List Int × List Bool)} {ls : List (Int × Bool)} {pk : Option Addr} {ck : Nat} {kk : List Int} {R : Nat → Prop}
    (h : Kit bb w σ F ws ls) (hK : KOk σ F kk) (hv : F.vars ≤ 1048576) (hr : RowR R w pk (kk.map (Value.int .i8))) (v : Value) (zs : List Int) (bs : List Bool) (hm : (v, zs, bs) ∈ ws) (h64 : bs.length ≤ 64) (hq : Quiet w w1) :
    Calls Tryd.prog 22 #[.slice pk (F.vars + 1) ck, v] w1 fun e w' => e = .returned (.tuple #[.int .u64 (valB bs : Nat), .bool true]) ∧ Quiet w w' := by
  obtain ⟨m, rfl⟩ := hq
  obtain ⟨h1, h2⟩ := h.w _ hm
  have hc := value_any pk ck kk σ F v zs R (Away bb w) (w.drewN m) hK hv (hr.keep (w' := w.drewN m) fun q hq => ⟨hq, rfl⟩) (h1.keep (w' := w.drewN m) fun q hq => ⟨hq, rfl⟩) h2.1 (Nat.le_trans (Nat.le_of_eq h2.len) h64)
  rw [h2.2] at hc
  refine hc.mono ?_
  rintro e w' ⟨rfl, m', rfl⟩
  exact ⟨rfl, m + m', by rw [World.drewN_drewN]⟩

/-- The mask of W ones. -/
def maskV (W : Nat) : Int := ((2 ^ W - 1 : Nat) : Int)
theorem pow_le64 {W : Nat} (h : W ≤ 64) : 2 ^ W ≤ 18446744073709551616 := by
  have : (2 : Nat) ^ W ≤ 2 ^ 64 := Nat.pow_le_pow_right (by decide) h
  exact this
theorem mask_eq {W : Nat} (h : W < 64) : IntKind.u64.wrap (IntKind.u64.wrap (2 ^ W) - 1) = maskV W := by
  unfold maskV
  have h2 : (2 : Nat) ^ W < 2 ^ 64 := Nat.pow_lt_pow_right (by decide) h
  have h3 : 1 ≤ (2 : Nat) ^ W := Nat.one_le_two_pow
  have e : ((2 : Int) ^ W) = ((2 ^ W : Nat) : Int) := by simp
  have e64 : (2 : Nat) ^ 64 = 18446744073709551616 := by decide
  rw [e64] at h2
  rw [e]
  generalize 2 ^ W = q at *
  rw [IntWalk.u64_in (q : Int) (by omega), IntWalk.u64_in _ (by omega)]
  omega
theorem mask64 : (18446744073709551615 : Int) = maskV 64 := by decide

/-- A test of a masked number. -/
theorem and_maskV (x : Int) (n : Nat) (hn : n ≤ 64) : bits .and .u64 (IntKind.u64.wrap x) (maskV n) = x % ((2 ^ n : Nat) : Int) := by
  unfold maskV; exact and_mask x n hn
theorem masked_sum (A B : Nat) (n : Nat) (hn : n ≤ 64) : ((((A + B) % 2 ^ n : Nat) : Int) == bits .and .u64 (IntKind.u64.wrap ((A : Int) + B)) (maskV n)) = true := by
  rw [and_maskV _ _ hn, beq_iff_eq]
  simp
theorem masked_diff (A B C : Nat) (n : Nat) (hn : n ≤ 64) (hB : B < 2 ^ n) (hC : C = (A + (2 ^ n - 1 - B) + 1) % 2 ^ n) : ((C : Int) == bits .and .u64 (IntKind.u64.wrap ((A : Int) - B)) (maskV n)) = true := by
  rw [and_maskV _ _ hn, beq_iff_eq, hC]
  have e : (A + (2 ^ n - 1 - B) + 1 : Nat) = A + 2 ^ n - B := by omega
  rw [e, Int.natCast_emod]
  have e2 : ((A + 2 ^ n - B : Nat) : Int) = (A : Int) - B + ((2 ^ n : Nat) : Int) := by omega
  rw [e2, Int.add_emod_right]
theorem sub_val (ax ay : List Bool) (h : ay.length = ax.length) : valB (addB ax (ay.map (!·)) true) = (valB ax + (2 ^ ax.length - 1 - valB ay) + 1) % 2 ^ ax.length := by
  have hn := notB_val ay
  rw [addB_val _ _ _ (by rw [List.length_map, h])]
  rw [h] at hn
  have : valB (ay.map (!·)) = 2 ^ ax.length - 1 - valB ay := by omega
  rw [this]; rfl
theorem cmp_lt {ax ay : List Bool} (h : ax.length = ay.length) (hlt : valB ax < valB ay) : valB [lessS ax ay false, lessS ay ax false, decide (ax = ay)] = 1 := by
  have e : ax ≠ ay := fun e => by subst e; omega
  unfold lessS
  simp only [Bool.false_eq_true, if_false]
  rw [lessB_val _ _ _ h, lessB_val _ _ _ h.symm]
  have : ¬ valB ay < valB ax := by omega
  simp [valB, e, hlt, this]
theorem cmp_gt {ax ay : List Bool} (h : ax.length = ay.length) (hlt : valB ay < valB ax) : valB [lessS ax ay false, lessS ay ax false, decide (ax = ay)] = 2 := by
  have e : ax ≠ ay := fun e => by subst e; omega
  unfold lessS
  simp only [Bool.false_eq_true, if_false]
  rw [lessB_val _ _ _ h, lessB_val _ _ _ h.symm]
  have : ¬ valB ax < valB ay := by omega
  simp [valB, e, hlt, this]
theorem cmp_eq {ax ay : List Bool} (h : ax.length = ay.length) (he : valB ax = valB ay) : valB [lessS ax ay false, lessS ay ax false, decide (ax = ay)] = 4 := by
  have e : ax = ay := valB_inj h he
  subst e
  unfold lessS
  simp only [Bool.false_eq_true, if_false]
  rw [lessB_val _ _ _ rfl]
  simp [valB]

end Go.Proofs.YtjcnhnifageikaaDoor

namespace Go.Proofs.YtjcnhnifageikaaDoor
set_option linter.unusedSimpArgs false
set_option linter.unusedVariables false
open Go.RowKit Go.Shelf

/-- Value of a word. -/
def ValC (wK : World) (vk v : Value) (n : Nat) : Prop := ∀ w1, Quiet wK w1 → Calls Tryd.prog 22 #[vk, v] w1 fun e w' => e = .returned (.tuple #[.int .u64 (n : Nat), .bool true]) ∧ Quiet wK w'
/-- Value of three literals that are just laid. -/
def ValL (wK : World) (vk : Value) (z1 z2 z3 n : Int) : Prop := ∀ w1, Quiet wK w1 → Calls Tryd.prog 22 #[vk, .slice (some ⟨w1.heap.size, 0, none⟩) 3 3] (w1.alloc (.cells #[.int .i64 z1, .int .i64 z2, .int .i64 z3] 3)) fun e w' =>
  e = .returned (.tuple #[.int .u64 n, .bool true]) ∧ Below wK.heap.size wK w'

theorem ValC.use {wK : World} {vk v : Value} {n : Nat} (h : ValC wK vk v n) {w1 : World} (hq : Quiet wK w1) : Calls Tryd.prog 22 #[vk, v] w1 fun e w' => e = .returned (.tuple #[.int .u64 (n : Nat), .bool true]) ∧ Quiet wK w' := h w1 hq
theorem ValL.use {wK : World} {vk : Value} {z1 z2 z3 n : Int} (h : ValL wK vk z1 z2 z3 n) {w1 : World} (hq : Quiet wK w1) : Calls Tryd.prog 22 #[vk, .slice (some ⟨w1.heap.size, 0, none⟩) 3 3] (w1.alloc (.cells #[.int .i64 z1, .int .i64 z2, .int .i64 z3] 3)) fun e w' =>
  e = .returned (.tuple #[.int .u64 n, .bool true]) ∧ Below wK.heap.size wK w' := h w1 hq

theorem quiet_alloc {wK w1 w' : World} {o : Obj} (hq : Quiet wK w1) (hm : ∃ m, w' = (w1.alloc o).drewN m) : Below wK.heap.size wK w' := by
  obtain ⟨m, rfl⟩ := hm
  obtain ⟨n, rfl⟩ := hq
  exact below_drewN ((below_drewN (Below.refl _ _) n).alloc (Nat.le_refl _) _) m

theorem vall_of {bb : Nat} {wK : World} {σ : Nat → Bool} {F : Form} {ws : List (Value × List Int × List Bool)} {ls : List (Int × Bool)} {pk : Option Addr} {ck : Nat} {kk : List Int} {wA : World}
    (h : Kit bb wK σ F ws ls) (hK : KOk σ F kk) (hv : F.vars ≤ 1048576) (hr : RowR (New wA wK) wK pk (kk.map (Value.int .i8))) {z1 z2 z3 : Int} {b1 b2 b3 : Bool} (h1 : (z1, b1) ∈ ls) (h2 : (z2, b2) ∈ ls) (h3 : (z3, b3) ∈ ls) :
    ValL wK (.slice pk (F.vars + 1) ck) z1 z2 z3 ((valB [b1, b2, b3] : Nat) : Int) := by
  intro w1 hq
  have a1 := h.l _ h1
  have a2 := h.l _ h2
  have a3 := h.l _ h3
  have hr1 : RowR (fun _ => True) (w1.alloc (.cells #[.int .i64 z1, .int .i64 z2, .int .i64 z3] 3)) pk (kk.map (Value.int .i8)) := hr.keep fun k hk => ⟨trivial, by
    obtain ⟨m, rfl⟩ := hq
    have hk2 : k < wK.heap.size := hk.2
    rw [heap_al, if_neg (show ¬ k = (wK.drewN m).heap.size from fun e => by have e' : k = wK.heap.size := e; omega)]; rfl⟩
  have hl : Ints (· = w1.heap.size) (w1.alloc (.cells #[.int .i64 z1, .int .i64 z2, .int .i64 z3] 3)) (.slice (some ⟨w1.heap.size, 0, none⟩) 3 3) [z1, z2, z3] :=
    ⟨_, 3, rfl, Nat.le_refl _, by unfold maxLen; omega, by simp, RowR.lit w1 [.int .i64 z1, .int .i64 z2, .int .i64 z3] 3 rfl⟩
  have hc := value_any pk ck kk σ F _ [z1, z2, z3] _ _ _ hK hv hr1 hl (fun x hx => by
    simp only [List.mem_cons, List.not_mem_nil, or_false] at hx
    rcases hx with rfl | rfl | rfl
    · exact a1.1
    · exact a2.1
    · exact a3.1) (by simp)
  have e7 : [z1, z2, z3].map (litT σ) = [b1, b2, b3] := by
    simp only [List.map_cons, List.map_nil]
    rw [a1.2, a2.2, a3.2]
  rw [e7] at hc
  refine hc.mono ?_
  rintro e w' ⟨rfl, hm⟩
  exact ⟨rfl, quiet_alloc hq hm⟩

theorem valc_of {bb : Nat} {wK : World} {σ : Nat → Bool} {F : Form} {ws : List (Value × List Int × List Bool)} {ls : List (Int × Bool)} {pk : Option Addr} {ck : Nat} {kk : List Int} {R : Nat → Prop}
    (h : Kit bb wK σ F ws ls) (hK : KOk σ F kk) (hv : F.vars ≤ 1048576) (hr : RowR R wK pk (kk.map (Value.int .i8))) {v : Value} {zs : List Int} {bs : List Bool} (hm : (v, zs, bs) ∈ ws) (h64 : bs.length ≤ 64) :
    ValC wK (.slice pk (F.vars + 1) ck) v (valB bs) := fun w1 hq => h.value hK hv hr v zs bs hm h64 hq

/-- How the numbers of AdderAgain compare. -/
theorem again_math (ax ay : List Bool) (W : Nat) (la : ax.length = W) (lb : ay.length = W) (hW64 : W ≤ 64) :
    ∃ (A B VS VD : Nat) (VL : Int), valB ax = A ∧ valB ay = B ∧ valB (addB ax ay false) = VS ∧ valB (addB (addB ax ay false) (ay.map (!·)) true) = A ∧ valB (addB ax (ay.map (!·)) true) = VD ∧
      ((valB [lessS ax ay false, lessS ay ax false, decide (ax = ay)] : Nat) : Int) = VL ∧ ((VS : Int) == bits .and .u64 (IntKind.u64.wrap ((A : Int) + B)) (maskV W)) = true ∧
      ((VD : Int) == bits .and .u64 (IntKind.u64.wrap ((A : Int) - B)) (maskV W)) = true ∧ (B ≤ A → ((VD : Int) == bits .and .u64 ((A : Int) - B) (maskV W)) = true) ∧ (A < B → VL = 1) ∧ (B < A → VL = 2) ∧ (A = B → VL = 4) := by
  have hll : ax.length = ay.length := la.trans lb.symm
  have hLB := valB_lt ay
  rw [lb] at hLB
  have eS := addB_val ax ay false hll
  have eD := sub_val ax ay hll.symm
  rw [la] at eS eD
  simp only [Bool.toNat_false, Nat.add_zero] at eS
  refine ⟨_, _, _, _, _, rfl, rfl, rfl, by rw [sub_add ax ay hll.symm], rfl, rfl, ?_, masked_diff _ _ _ W hW64 hLB eD, fun h => by { have := masked_diff _ _ _ W hW64 hLB eD; have h1 := valB_lt ax; rw [la] at h1; have h2 := pow_le64 hW64; rw [IntWalk.u64_in _ (by omega)] at this; exact this }, fun h => by rw [cmp_lt hll h]; rfl, fun h => by rw [cmp_gt hll h]; rfl, fun h => by rw [cmp_eq hll h]; rfl⟩
  rw [eS]
  exact masked_sum _ _ W hW64

end Go.Proofs.YtjcnhnifageikaaDoor

namespace Go.Proofs.YtjcnhnifageikaaDoor
set_option linter.unusedSimpArgs false
set_option linter.unusedVariables false
open Go.RowKit Go.Shelf

section
variable {w0 w : World} {bb W V K : Nat} {xs ys : List Int} {ax ay : List Bool} {vin vval vx vy va vb : Value} {σ : Nat → Bool} {F : Form} (h : Run w0 bb W xs ys ax ay vin vval vx vy va vb V K w σ F)
  {vp vq : Value} {ps qs : List Int} {bp bq : List Bool} {n : Nat} (h1 : 1 ≤ n) (h64 : n ≤ 64) (ip : Ints (Away bb w) w vp ps) (iq : Ints (Away bb w) w vq qs) (hp : LitsAre σ F ps bp) (hq : LitsAre σ F qs bq) (lp : bp.length = n) (lq : bq.length = n)
include h h1 h64 ip hp lp
include iq hq lq
theorem Run.chooseN {z : Int} {b : Bool} (hz : LitIs σ F z b) (hV : V + n < 1048576) (hK : K + 6 * n ≤ 1048576) :
    Calls Tryd.prog 23 #[.pointer (some ⟨bb, 0, none⟩), .int .i64 z, vp, vq] w (RunW w0 bb W xs ys ax ay vin vval vx vy va vb V K w σ F (chooseB b bp bq) n (6 * n)) := by
  have e := hp.len.trans lp
  have e' := hq.len.trans lq
  have := h.v; have := h.c
  have hc := choose_c h.st.c (by omega) (by omega) (by omega) hp.1 hq.1 ip iq hz.1 (by omega) (by omega)
  rw [hp.2, hq.2, e, hz.2] at hc
  exact hc.mono fun _ _ hp => h.word hp
end

theorem any_zeros (l : List Bool) : decide (l = List.replicate l.length false) = !(l.any id) := by
  induction l with
  | nil => rfl
  | cons a l ih =>
    rw [List.length_cons, List.replicate_succ, List.any_cons]
    cases a
    · simpa using ih
    · simp

theorem wide_fn (f : Nat) : Fence.wide.fn f := trivial

/-- What is known of a literal. -/
def IsC (wK : World) (vk : Value) (z : Int) (b : Bool) : Prop := ∀ w1, Quiet wK w1 → Calls Tryd.prog 33 #[vk, .int .i64 z] w1 fun e w' => e = .returned (.tuple #[.bool true, .bool b]) ∧ Quiet wK w'
theorem IsC.use {wK : World} {vk : Value} {z : Int} {b : Bool} (h : IsC wK vk z b) {w1 : World} (hq : Quiet wK w1) : Calls Tryd.prog 33 #[vk, .int .i64 z] w1 fun e w' => e = .returned (.tuple #[.bool true, .bool b]) ∧ Quiet wK w' := h w1 hq
theorem isc_of {bb : Nat} {wK : World} {σ : Nat → Bool} {F : Form} {ws : List (Value × List Int × List Bool)} {ls : List (Int × Bool)} {pk : Option Addr} {ck : Nat} {kk : List Int} {R : Nat → Prop}
    (h : Kit bb wK σ F ws ls) (hK : KOk σ F kk) (hv : F.vars ≤ 1048576) (hr : RowR R wK pk (kk.map (Value.int .i8))) {z : Int} {b : Bool} (hm : (z, b) ∈ ls) : IsC wK (.slice pk (F.vars + 1) ck) z b := by
  rintro w1 ⟨m, rfl⟩
  obtain ⟨h1, h2⟩ := h.l _ hm
  have his := is_any pk ck kk z R (wK.drewN m) (Bd.lit hv h1) (by rw [hK.len]; omega) (hr.keep (w' := wK.drewN m) fun q hq => ⟨hq, rfl⟩)
  have e2 : litT σ z = b := h2
  rw [hK.len, hK.is h1, e2] at his
  refine his.mono ?_
  rintro e w' ⟨rfl, m', rfl⟩
  exact ⟨rfl, m + m', by rw [World.drewN_drewN]⟩

end Go.Proofs.YtjcnhnifageikaaDoor

namespace Go.Proofs.YtjcnhnifageikaaDoor
set_option linter.unusedSimpArgs false
set_option linter.unusedVariables false
open Go.RowKit Go.Shelf

/-- A circuit of n inputs; at most V variables and K clauses are there. -/
structure Bas (w0 : World) (bb n : Nat) (vin vval : Value) (V K : Nat) (w : World) (σ : Nat → Bool) (F : Form) : Prop where
  st : St w0 w bb n σ F vin vval
  v : F.vars ≤ V
  c : F.cls.length ≤ K

section
variable {w0 w w' : World} {bb n V K dv dc : Nat} {vin vval : Value} {σ σ' : Nat → Bool} {F F' : Form}
theorem Bas.fr (h : Bas w0 bb n vin vval V K w σ F) (hb : Below w.heap.size w w') : Bas w0 bb n vin vval V K w' σ F := ⟨h.st.below hb, h.v, h.c⟩
theorem Bas.step (h : Bas w0 bb n vin vval V K w σ F) (hf : FrB bb w w') (hC : Circ w' bb n σ' F' vin vval) (hx : Ext n σ F σ' F' dv dc) : Bas w0 bb n vin vval (V + dv) (K + dc) w' σ' F' :=
  ⟨h.st.step hf hC, by have := hx.v1; have := h.v; omega, by have := hx.c1; have := h.c; omega⟩
theorem Bas.mono {V' K' : Nat} (h : Bas w0 bb n vin vval V K w σ F) (h1 : V ≤ V') (h2 : K ≤ K') : Bas w0 bb n vin vval V' K' w σ F := ⟨h.st, Nat.le_trans h.v h1, Nat.le_trans h.c h2⟩
/-- A step that turns nothing of the circuit. -/
theorem Bas.same (h : Bas w0 bb n vin vval V K w σ F) (hf : FrB bb w w') (hB : IsB w' bb F) : Bas w0 bb n vin vval V K w' σ F :=
  ⟨h.st.step hf (h.st.c.step hf hB (Ext.refl h.st.c.good 0 0)), h.v, h.c⟩
/-- A circuit's box is laid. -/
theorem Bas.box (h : Bas w0 bb n vin vval V K w σ F) (W' : World) (hW : w.alloc (.cells #[.pointer (some ⟨bb, 0, none⟩), vin, vval] 30) = W') :
    Bas w0 bb n vin vval V K W' σ F ∧ Own bb W' w.heap.size (.cells #[.pointer (some ⟨bb, 0, none⟩), vin, vval] 30 (0, 0)) ∧ W'.heap.size = w.heap.size + 1 ∧ FrB bb w W' := by
  subst hW
  have hb : Below w.heap.size w (w.alloc (.cells #[.pointer (some ⟨bb, 0, none⟩), vin, vval] 30)) := (Below.refl _ _).alloc (Nat.le_refl _) _
  exact ⟨h.fr hb, ⟨h.st.c.b.away_new hb (Nat.le_refl _) (by simp), by rw [heap_al, if_pos rfl]⟩, by simp only [World.size_alloc], FrB.of_below h.st.c.b hb⟩
end

/-- What a call that answers with a literal leaves. -/
def BasL (w0 : World) (bb n : Nat) (vin vval : Value) (V K : Nat) (w : World) (σ : Nat → Bool) (F : Form) (b : Bool) (dv dc : Nat) (e : Ending) (w' : World) : Prop :=
  ∃ z σ' F', e = .returned (.tuple #[.int .i64 z, .int .i64 0]) ∧ Bas w0 bb n vin vval (V + dv) (K + dc) w' σ' F' ∧ LitIs σ' F' z b ∧ FrB bb w w' ∧ Ext n σ F σ' F' dv dc
/-- What a call that answers with a word leaves. -/
def BasW (w0 : World) (bb n : Nat) (vin vval : Value) (V K : Nat) (w : World) (σ : Nat → Bool) (F : Form) (bs : List Bool) (dv dc : Nat) (e : Ending) (w' : World) : Prop :=
  ∃ v zs σ' F', e = .returned (.tuple #[v, .int .i64 0]) ∧ Bas w0 bb n vin vval (V + dv) (K + dc) w' σ' F' ∧ Ints (Away bb w') w' v zs ∧ LitsAre σ' F' zs bs ∧ FrB bb w w' ∧ Ext n σ F σ' F' dv dc

section
variable {w0 w : World} {bb n V K : Nat} {vin vval : Value} {σ : Nat → Bool} {F : Form} (h : Bas w0 bb n vin vval V K w σ F)
include h
theorem Bas.lit {b : Bool} {dv dc : Nat} {e : Ending} {w' : World} (hp : LC bb n σ F vin vval w b dv dc e w') : BasL w0 bb n vin vval V K w σ F b dv dc e w' := by
  obtain ⟨z, σ', F', he, hC, hok, hb, hf, hx⟩ := hp
  exact ⟨z, σ', F', he, h.step hf hC hx, ⟨hok, hb⟩, hf, hx⟩
theorem Bas.word {bs : List Bool} {dv dc : Nat} {e : Ending} {w' : World} (hp : WC bb n σ F vin vval w bs dv dc e w') : BasW w0 bb n vin vval V K w σ F bs dv dc e w' := by
  obtain ⟨v, zs, σ', F', he, hC, hi, hok, hb, hf, hx⟩ := hp
  exact ⟨v, zs, σ', F', he, h.step hf hC hx, hi, ⟨hok, hb⟩, hf, hx⟩

variable {vp vq : Value} {ps qs : List Int} {bp bq : List Bool} {m : Nat} (h1 : 1 ≤ m) (h64 : m ≤ 64) (ip : Ints (Away bb w) w vp ps) (iq : Ints (Away bb w) w vq qs) (hp : LitsAre σ F ps bp) (hq : LitsAre σ F qs bq) (lp : bp.length = m) (lq : bq.length = m)
include h1 h64 ip hp lp
include iq hq lq
theorem Bas.choose {z : Int} {b : Bool} (hz : LitIs σ F z b) (hV : V + m < 1048576) (hK : K + 6 * m ≤ 1048576) :
    Calls Tryd.prog 23 #[.pointer (some ⟨bb, 0, none⟩), .int .i64 z, vp, vq] w (BasW w0 bb n vin vval V K w σ F (chooseB b bp bq) m (6 * m)) := by
  have e := hp.len.trans lp
  have e' := hq.len.trans lq
  have := h.v; have := h.c
  have hc := choose_c h.st.c (by omega) (by omega) (by omega) hp.1 hq.1 ip iq hz.1 (by omega) (by omega)
  rw [hp.2, hq.2, e, hz.2] at hc
  exact hc.mono fun _ _ hp => h.word hp
end

/-- A call that refuses: an error, and nothing is turned. -/
def BasE (w0 : World) (bb n : Nat) (vin vval : Value) (V K : Nat) (w : World) (σ : Nat → Bool) (F : Form) (er : Int) (e : Ending) (w' : World) : Prop :=
  ∃ v, e = .returned (.tuple #[v, .int .i64 er]) ∧ Bas w0 bb n vin vval V K w' σ F ∧ FrB bb w w'
section
variable {w0 w : World} {bb n V K : Nat} {vin vval : Value} {σ : Nat → Bool} {F : Form} (h : Bas w0 bb n vin vval V K w σ F) {er : Int}
include h
theorem Bas.refuseW {r : WOut} (hr : r.2.1 = er) (hF : r.2.2 = F) {e : Ending} {w' : World} (hp : WPost bb w r e w') : BasE w0 bb n vin vval V K w σ F er e w' := by
  obtain ⟨v, he, hi, hB, hf⟩ := hp
  rw [hr] at he
  rw [hF] at hB
  exact ⟨v, he, h.same hf hB, hf⟩
theorem Bas.refuseL {r : Out} (hr : r.2.1 = er) (hF : r.2.2 = F) {e : Ending} {w' : World} (hp : GatePost bb w r e w') : BasE w0 bb n vin vval V K w σ F er e w' := by
  obtain ⟨he, hB, hf⟩ := hp
  rw [hr] at he
  rw [hF] at hB
  exact ⟨_, he, h.same hf hB, hf⟩
end

end Go.Proofs.YtjcnhnifageikaaDoor
