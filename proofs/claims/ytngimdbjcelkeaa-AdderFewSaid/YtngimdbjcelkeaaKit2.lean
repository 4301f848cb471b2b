/-
  More for laws over a circuit: comparisons and choices of any of its words; what is known of a literal; the law's closure 'turn'.
-/
import Derived.Test.YtngimdbjcelkeaaAGF
import Derived.Laws.OwnMore
namespace Go.Proofs.Ytngimdbjcelkeaa
set_option linter.unusedSimpArgs false
set_option linter.unusedVariables false
open Go.RowKit Go.Shelf

section
variable {w0 w : World} {bb W V K : Nat} {xs ys : List Int} {ax ay : List Bool} {vin vval vx vy va vb : Value} {σ : Nat → Bool} {F : Form} (h : Run w0 bb W xs ys ax ay vin vval vx vy va vb V K w σ F)
  {vp vq : Value} {ps qs : List Int} {bp bq : List Bool} {n : Nat} (h1 : 1 ≤ n) (h64 : n ≤ 64) (ip : Ints (Away bb w) w vp ps) (iq : Ints (Away bb w) w vq qs) (hp : LitsAre σ F ps bp) (hq : LitsAre σ F qs bq) (lp : bp.length = n) (lq : bq.length = n)
include h h1 h64 ip hp lp
theorem Run.anyN (hV : V + 2 * n < 1048576) (hK : K + 12 * n ≤ 1048576) :
    Calls Try.prog 44 #[.pointer (some ⟨bb, 0, none⟩), vp] w (RunL w0 bb W xs ys ax ay vin vval vx vy va vb V K w σ F (bp.any id) (2 * n) (12 * n)) := by
  have e := hp.len.trans lp
  have := h.v; have := h.c
  have hc := any_c h.st.c (by omega) (by omega) hp.1 ip (by omega) (by omega)
  rw [hp.2, e] at hc
  exact hc.mono fun _ _ hp => h.lit hp
include iq hq lq
theorem Run.addN {z : Int} {b : Bool} (hz : LitIs σ F z b) (hV : V + 3 * n < 1048576) (hK : K + 18 * n ≤ 1048576) :
    Calls Try.prog 25 #[.pointer (some ⟨bb, 0, none⟩), vp, vq, .int .i64 z] w (RunW w0 bb W xs ys ax ay vin vval vx vy va vb V K w σ F (addB bp bq b) (3 * n) (18 * n)) := by
  have e := hp.len.trans lp
  have e' := hq.len.trans lq
  have := h.v; have := h.c
  have hc := add_c h.st.c (by omega) (by omega) (by omega) hp.1 hq.1 ip iq hz.1 (by omega) (by omega)
  rw [hp.2, hq.2, e, hz.2] at hc
  exact hc.mono fun _ _ hp => h.word hp
theorem Run.subN (hV : V + 3 * n < 1048576) (hK : K + 18 * n ≤ 1048576) :
    Calls Try.prog 26 #[.pointer (some ⟨bb, 0, none⟩), vp, vq] w (RunW w0 bb W xs ys ax ay vin vval vx vy va vb V K w σ F (addB bp (bq.map (!·)) true) (3 * n) (18 * n)) := by
  have e := hp.len.trans lp
  have e' := hq.len.trans lq
  have := h.v; have := h.c
  have hc := sub_c h.st.c (by omega) (by omega) (by omega) hp.1 hq.1 ip iq (by omega) (by omega)
  rw [hp.2, hq.2, e] at hc
  exact hc.mono fun _ _ hp => h.word hp
theorem Run.lessN (sg : Bool) (hV : V + 2 * n < 1048576) (hK : K + 12 * n ≤ 1048576) :
    Calls Try.prog 32 #[.pointer (some ⟨bb, 0, none⟩), vp, vq, .bool sg] w (RunL w0 bb W xs ys ax ay vin vval vx vy va vb V K w σ F (lessS bp bq sg) (2 * n) (12 * n)) := by
  have e := hp.len.trans lp
  have e' := hq.len.trans lq
  have := h.v; have := h.c
  have hc := less_c h.st.c (by omega) (by omega) (by omega) hp.1 hq.1 ip iq sg (by omega) (by omega)
  rw [hp.2, hq.2, e] at hc
  exact hc.mono fun _ _ hp => h.lit hp
theorem Run.equalN (hV : V + 2 * n < 1048576) (hK : K + 12 * n ≤ 1048576) :
    Calls Try.prog 33 #[.pointer (some ⟨bb, 0, none⟩), vp, vq] w (RunL w0 bb W xs ys ax ay vin vval vx vy va vb V K w σ F (decide (bp = bq)) (2 * n) (12 * n)) := by
  have e := hp.len.trans lp
  have e' := hq.len.trans lq
  have := h.v; have := h.c
  have hc := equal_c h.st.c (by omega) (by omega) (by omega) hp.1 hq.1 ip iq (by omega) (by omega)
  rw [hp.2, hq.2, e] at hc
  exact hc.mono fun _ _ hp => h.lit hp
theorem Run.chooseN {z : Int} {b : Bool} (hz : LitIs σ F z b) (hV : V + n < 1048576) (hK : K + 6 * n ≤ 1048576) :
    Calls Try.prog 43 #[.pointer (some ⟨bb, 0, none⟩), .int .i64 z, vp, vq] w (RunW w0 bb W xs ys ax ay vin vval vx vy va vb V K w σ F (chooseB b bp bq) n (6 * n)) := by
  have e := hp.len.trans lp
  have e' := hq.len.trans lq
  have := h.v; have := h.c
  have hc := choose_c h.st.c (by omega) (by omega) (by omega) hp.1 hq.1 ip iq hz.1 (by omega) (by omega)
  rw [hp.2, hq.2, e, hz.2] at hc
  exact hc.mono fun _ _ hp => h.word hp
end

theorem any_zeros (l : List Bool) : decide (l = List.replicate l.length false) = !(l.any id) := by
  induction l with
  | nil => rfl
  | cons a l ih =>
    rw [List.length_cons, List.replicate_succ, List.any_cons]
    cases a
    · simpa using ih
    · simp

theorem wide_fn (f : Nat) : Fence.wide.fn f := trivial

/-- What is known of a literal. -/
def IsC (wK : World) (vk : Value) (z : Int) (b : Bool) : Prop := ∀ w1, Quiet wK w1 → Calls Try.prog 50 #[vk, .int .i64 z] w1 fun e w' => e = .returned (.tuple #[.bool true, .bool b]) ∧ Quiet wK w'
theorem IsC.use {wK : World} {vk : Value} {z : Int} {b : Bool} (h : IsC wK vk z b) {w1 : World} (hq : Quiet wK w1) : Calls Try.prog 50 #[vk, .int .i64 z] w1 fun e w' => e = .returned (.tuple #[.bool true, .bool b]) ∧ Quiet wK w' := h w1 hq
theorem isc_of {bb : Nat} {wK : World} {σ : Nat → Bool} {F : Form} {ws : List (Value × List Int × List Bool)} {ls : List (Int × Bool)} {pk : Option Addr} {ck : Nat} {kk : List Int} {R : Nat → Prop}
    (h : Kit bb wK σ F ws ls) (hK : KOk σ F kk) (hv : F.vars ≤ 1048576) (hr : RowR R wK pk (kk.map (Value.int .i8))) {z : Int} {b : Bool} (hm : (z, b) ∈ ls) : IsC wK (.slice pk (F.vars + 1) ck) z b := by
  rintro w1 ⟨m, rfl⟩
  obtain ⟨h1, h2⟩ := h.l _ hm
  have his := is_any pk ck kk z R (wK.drewN m) (Bd.lit hv h1) (by rw [hK.len]; omega) (hr.keep (w' := wK.drewN m) fun q hq => ⟨hq, rfl⟩)
  have e2 : litT σ z = b := h2
  rw [hK.len, hK.is h1, e2] at his
  refine his.mono ?_
  rintro e w' ⟨rfl, m', rfl⟩
  exact ⟨rfl, m + m', by rw [World.drewN_drewN]⟩

set_option maxHeartbeats 800000 in
theorem turn_any (vx : Value) (xs : List Int) (R : Nat → Prop) (w : World) (hx : Ints R w vx xs) (h1 : 1 ≤ xs.length) (h64 : xs.length ≤ 64) (hb : ∀ x ∈ xs, -9223372036854775807 ≤ x ∧ x ≤ 9223372036854775807) :
    Calls Try.prog 49 #[vx] w fun e w' => ∃ v, e = .returned v ∧ Ints (New w w') w' v (turnM xs) ∧ Below w.heap.size w w' := by
  obtain ⟨p, c, rfl, _, _, _, hr⟩ := hx.op
  have hlast := hb _ (List.getElem_mem (show xs.length - 1 < xs.length by omega))
  have hgd : xs.getD (xs.length - 1) 0 = xs[xs.length - 1]'(by omega) := by simp [List.getD_eq_getElem?_getD, List.getElem?_eq_getElem (show xs.length - 1 < xs.length by omega)]
  have HGD := hid hgd
  clear hx hb hgd
  generalize hq : xs[xs.length - 1]'(by omega) = q at *
  have HQ := hid hq; clear hq
  have HR := hid hr; clear hr
  go_enter Try.func49, Try.ntmps49
  go_wp2_with (at_builtin; refine wpList_app _ rfl (.const (.slice none 0 0)) (.tmp 4) 23 rfl w.heap.size 3 (.int .i64 0) 8 Try.underlying23 info_int rfl _ 0 _ rfl (World.ownsRow_nil _ _ _ _) p xs.length c _ rfl (by rw [List.length_map]) HR.out (ints_one _) (by omega) (by unfold maxLen; omega) (Nat.le_refl _) ?_; intro v1 w1 ho1 hg1 _; simp only [Nat.zero_add, List.nil_append] at ho1; obtain ⟨g, cp, rfl, hgB, hgl, hcc, hff⟩ := owns_open ho1 h1; have HO1 := hid ho1; have HG1 := hid hg1; have d1 := hcc (xs.length - 1) (by rw [List.length_map]; omega); have f1 := hff (xs.length - 1) (by omega); rw [List.getElem_map, HQ.out] at d1; clear hcc hff ho1 hg1)
  go_ret
  have ho := (HO1.out.stored (xs.length - 1) (.int .i64 (-q))).1
  have hg := (HO1.out.stored (xs.length - 1) (.int .i64 (-q))).2
  have e : (xs.map (Value.int .i64)).set (xs.length - 1) (.int .i64 (-q)) = (turnM xs).map (Value.int .i64) := by
    unfold turnM; rw [HGD.out, List.map_set]
  rw [e] at ho
  have hb1 : Below w.heap.size w w1 := (Below.refl _ _).grown HG1.out (Nat.le_refl _) (fun k hk => by cases hk)
  have hb2 := hb1.setCell (show w.heap.size ≤ (⟨g, xs.length - 1, none⟩ : Addr).block from hgB) (.int .i64 (-q))
  refine ⟨_, rfl, ?_, hb2⟩
  exact Sl.of_owns ho (by omega) (fun k hk => ⟨(ho.lt k hk).1, (ho.lt k hk).2⟩)

end Go.Proofs.Ytngimdbjcelkeaa
