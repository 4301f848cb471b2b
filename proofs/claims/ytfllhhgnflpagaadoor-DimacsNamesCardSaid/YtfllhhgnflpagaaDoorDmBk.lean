/-
  DimacsBack, DimacsSame, DimacsEnds: the walks.
-/
import Derived.Test.YtfllhhgnflpagaaDoorDmFi
import Derived.Test.YtfllhhgnflpagaaDoorDmB2
import Derived.Test.YtfllhhgnflpagaaDoorDmLr
namespace Go.Proofs.YtfllhhgnflpagaaDoor
set_option linter.unusedSimpArgs false
set_option linter.unusedVariables false
open Go.RowKit Go.Shelf
attribute [local go_sem] Oper.semAt_some

/-! ### boxes -/
/-- A formula in a local variable. -/
def Bx (b : Nat) (n : Int) (v : Value) (W : World) : Prop := b < W.heap.size ∧ W.cell? ⟨b, 0, none⟩ = some (.int .i64 n) ∧ W.cell? ⟨b, 1, none⟩ = some v
theorem Bx.c0 {b : Nat} {n : Int} {v : Value} {W : World} (h : Bx b n v W) : W.cell? ⟨b, 0, none⟩ = some (.int .i64 n) := h.2.1
theorem Bx.c1 {b : Nat} {n : Int} {v : Value} {W : World} (h : Bx b n v W) : W.cell? ⟨b, 1, none⟩ = some v := h.2.2
theorem Bx.bel {b : Nat} {n : Int} {v : Value} {W W' : World} (h : Bx b n v W) (hb : Below W.heap.size W W') : Bx b n v W' :=
  ⟨Nat.lt_of_lt_of_le h.1 hb.size, (hb.cell (p := ⟨b, 0, none⟩) h.1).trans h.2.1, (hb.cell (p := ⟨b, 1, none⟩) h.1).trans h.2.2⟩
theorem Bx.new (W : World) (n : Int) (v : Value) : Bx W.heap.size n v (W.alloc (.cells #[.int .i64 n, v] 24)) :=
  ⟨by rw [World.size_alloc]; omega, by rw [cell_al, if_pos rfl]; rfl, by rw [cell_al, if_pos rfl]; rfl⟩
theorem LL.up {b : Nat} {W W' : World} {v : Value} {ls : List (List Int)} (h : LL (fun k => b ≤ k ∧ k < W.heap.size) W v ls) (hb : Below W.heap.size W W') : LL (· < W'.heap.size) W' v ls := h.keep fun k hk => ⟨Nat.lt_of_lt_of_le hk.2 hb.size, hb.block k hk.2⟩
theorem LL.nil' {R : Nat → Prop} {w : World} : LL R w (.slice none 0 0) [] := ⟨[], Sl.nil, rfl, fun i h => absurd h (by simp)⟩

/-! ### plain: a formula that Fit makes is valid, its text short -/
theorem fitC_mem {m : Int} {x : List Int} {a : Int} (hm : 1 ≤ m ∧ m ≤ 12) (h : a ∈ fitC m x) : a ≠ 0 ∧ (a.natAbs : Int) ≤ m := by
  unfold fitC at h
  rw [List.mem_filter] at h
  obtain ⟨h1, h2⟩ := h
  obtain ⟨b, _, rfl⟩ := List.mem_map.1 h1
  have h3 := Int.tmod_lt_of_pos b (show 0 < m + 1 by omega)
  have h4 := Int.lt_tmod_of_pos b (show 0 < m + 1 by omega)
  exact ⟨by simpa using h2, by omega⟩
theorem fitOk_parts {l : List (List Int)} (h : fitOk l = true) : l.length ≤ 30 ∧ ∀ x ∈ l, x.length ≤ 20 := by
  unfold fitOk at h
  rw [Bool.and_eq_true, List.all_eq_true] at h
  exact ⟨by simpa using h.1, fun x hx => by simpa using h.2 x hx⟩
theorem checkM_fit {m : Int} {l : List (List Int)} (hm : 1 ≤ m ∧ m ≤ 12) (h : fitOk l = true) : checkM m (fitL m l) = 0 := by
  obtain ⟨h1, h2⟩ := fitOk_parts h
  have h3 : ∀ c ∈ fitL m l, litM m c = 0 := by
    intro c hc
    obtain ⟨x, hx, rfl⟩ := List.mem_map.1 hc
    have := fitC_len m x
    have := h2 x hx
    unfold litM
    rw [if_neg (by omega), if_neg (by omega), if_neg]
    rw [Bool.not_eq_true, List.any_eq_false]
    intro a ha
    have := fitC_mem hm ha
    simp [this.1]
    omega
  have h4 : ∀ k : List (List Int), (∀ c ∈ k, litM m c = 0) → litsM m k = 0 := by
    intro k
    induction k with
    | nil => intro _; rfl
    | cons c r ih =>
      intro h
      unfold litsM
      rw [if_neg (by rw [h c (by simp)]; simp)]
      exact ih fun d hd => h d (by simp [hd])
  unfold checkM
  rw [if_neg (by omega), if_neg (by unfold fitL; rw [List.length_map]; omega)]
  exact h4 _ h3
theorem flat_len {α β : Type} (f : α → List β) (N : Nat) : ∀ (l : List α), (∀ x ∈ l, (f x).length ≤ N) → (l.flatMap f).length ≤ l.length * N
  | [], _ => by simp
  | x :: r, h => by
    rw [List.flatMap_cons, List.length_append, List.length_cons, Nat.succ_mul]
    have h1 := h x (by simp)
    have h2 := flat_len f N r fun y hy => h y (by simp [hy])
    omega
theorem clauseT_len (c : List Int) (hc : ∀ a ∈ c, (a.natAbs : Int) ≤ 1048576) : (clauseT c).length ≤ c.length * 22 + 2 := by
  unfold clauseT
  rw [List.length_append]
  have := flat_len (fun a => Lib.itoa a ++ [32]) 22 c fun a ha => by
    have := hc a ha
    have := itoa_len a (by omega) (by omega)
    rw [List.length_append]; simp; omega
  simp
  simpa using this
theorem textM_len {n : Int} {l : List (List Int)} (M : Nat) (hn : 0 ≤ n ∧ n ≤ 1048576) (hl : l.length ≤ 1048576) (hc : ∀ c ∈ l, c.length ≤ M ∧ ∀ a ∈ c, (a.natAbs : Int) ≤ 1048576) : (textM n l).length ≤ 50 + l.length * (M * 22 + 2) := by
  unfold textM headT
  have h1 := itoa_len n (by omega) (by omega)
  have h2 := itoa_len (l.length : Int) (by omega) (by omega)
  have h3 := flat_len clauseT (M * 22 + 2) l fun c hc' => by
    obtain ⟨h4, h5⟩ := hc c hc'
    have := clauseT_len c h5
    have : c.length * 22 ≤ M * 22 := Nat.mul_le_mul_right _ h4
    omega
  simp only [List.length_append, List.length_cons, List.length_nil]
  omega
theorem fit_text {m : Int} {l : List (List Int)} (hm : 1 ≤ m ∧ m ≤ 12) (h : fitOk l = true) : (textM m (fitL m l)).length ≤ 20000 := by
  obtain ⟨h1, h2⟩ := fitOk_parts h
  have := textM_len (n := m) (l := fitL m l) 20 (by omega) (by unfold fitL; rw [List.length_map]; omega) (fun c hc => by
    obtain ⟨x, hx, rfl⟩ := List.mem_map.1 hc
    have h3 := fitC_len m x
    have h4 := h2 x hx
    exact ⟨by omega, fun a ha => by have := fitC_mem hm ha; omega⟩)
  have h5 : (fitL m l).length ≤ 30 := by unfold fitL; rw [List.length_map]; exact h1
  have h6 : (fitL m l).length * (20 * 22 + 2) ≤ 30 * (20 * 22 + 2) := Nat.mul_le_mul_right _ h5
  omega
/-- All that the laws ask of a formula that Fit has made. -/
structure FitF (n : Int) (cls : List (List Int)) (tx : Bs) : Prop where
  fok : FOk n cls
  fmt : formatM n cls = (tx, 0)
  txt : tx = textM n cls
  len : tx.length ≤ 20000
  prs : parseM tx = ((n, cls), 0, 0)
  bnd : LBnd cls
  n0 : -9223372036854775808 ≤ n ∧ n ≤ 9223372036854775807
theorem FitF.of {n : Int} {l : List (List Int)} (hn : 0 ≤ n ∧ n ≤ 255) (h : fitOk l = true) : FitF (fitN n) (fitL (fitN n) l) (textM (fitN n) (fitL (fitN n) l)) := by
  have hm : 1 ≤ fitN n ∧ fitN n ≤ 12 := by unfold fitN; omega
  have h1 := checkM_fit hm h
  have h2 := fit_text hm h
  have h3 := FOk.of_check h1
  refine ⟨h3, formatM_ok h1 rfl (by omega), rfl, h2, h3.back (by omega), fun c hc a ha => ?_, by omega⟩
  have := (h3.lits c hc).2 a ha
  omega
theorem fit_yes {n : Int} {l : List (List Int)} (h : fitOk l = true) {N : Int} (hN : fitN n = N) {ls : List (List Int)} (hls : fitL N l = ls) {v : Value} (w : World) (hn : 0 ≤ n ∧ n ≤ 255) (hv : L8 (· < w.heap.size) w v l) (hb : ∀ x ∈ l, ∀ a ∈ x, -128 ≤ a ∧ a ≤ 127) :
    Calls Tryd.prog 18 #[.int .u8 n, v] w fun e w' => ∃ cv, e = .returned (.tuple #[.agg #[.int .i64 N, cv], .bool true]) ∧ LL (fun k => w.heap.size ≤ k ∧ k < w'.heap.size) w' cv ls ∧ Below w.heap.size w w' := by
  have := fit_any n l v w hn hv hb
  unfold FitPost at this
  rw [h] at this
  simp only [if_true] at this
  rw [hN, hls] at this
  exact this
theorem fit_not {n : Int} {l : List (List Int)} (h : fitOk l = false) {v : Value} (w : World) (hn : 0 ≤ n ∧ n ≤ 255) (hv : L8 (· < w.heap.size) w v l) (hb : ∀ x ∈ l, ∀ a ∈ x, -128 ≤ a ∧ a ≤ 127) :
    Calls Tryd.prog 18 #[.int .u8 n, v] w fun e w' => ∃ cv, e = .returned (.tuple #[.agg #[.int .i64 0, cv], .bool false]) ∧ LL (fun k => w.heap.size ≤ k ∧ k < w'.heap.size) w' cv [] ∧ Below w.heap.size w w' := by
  have := fit_any n l v w hn hv hb
  unfold FitPost at this
  rw [h] at this
  simpa using this
theorem eqf_is {n m : Int} {a b : List (List Int)} {r : Bool} (h : decide (n = m ∧ a = b) = r) {va vb : Value} {w : World} (ha : LL (· < w.heap.size) w va a) (hb : LL (· < w.heap.size) w vb b) :
    Calls Tryd.prog 17 #[.agg #[.int .i64 n, va], .agg #[.int .i64 m, vb]] w fun e w' => e = .returned (.bool r) ∧ Below w.heap.size w w' := by
  have := eqformula_any n m a b va vb w ha hb
  rw [h] at this
  exact this
set_option maxRecDepth 100000 in
set_option maxHeartbeats 4000000 in
theorem back_walk (n : Int) (v : Value) (l : List (List Int)) (w : World) (hn : 0 ≤ n ∧ n ≤ 255) (hv : L8 (· < w.heap.size) w v l) (hb : ∀ x ∈ l, ∀ a ∈ x, -128 ≤ a ∧ a ≤ 127) (hE : Env w) :
    Calls Tryd.prog 6 #[.int .u8 n, v] w fun e w' => e = .returned (.bool true) ∧ Below w.heap.size w w' := by
  obtain ⟨ok, hok⟩ : ∃ b, fitOk l = b := ⟨_, rfl⟩
  have HE := hid hE; have HV := hid hv; have HB := hid hb; have HN := hid hn
  clear hE hv hb hn
  cases ok with
  | false =>
    have HOK := hid hok
    clear hok
    go_enter Tryd.func6, Tryd.ntmps6
    go_wp2_with (first
      | (go_at_call 18; with_reducible refine (fit_not HOK.out w HN.out HV.out HB.out).mono ?_; rintro e w1_ ⟨vA, rfl, hlA, hb1⟩; obtain ⟨pA, nA, kA, rfl⟩ := hlA.slc; have HBel1 := hid (show Below w.heap.size w w1_ from hb1); (obtain ⟨w1b_, hwA⟩ : ∃ x, w1_.alloc (.cells #[.int .i64 (0), .slice pA nA kA] 24) = x := ⟨_, rfl⟩); have hbxA : Below w1_.heap.size w1_ w1b_ := (by rw [← hwA]; exact (Below.refl _ _).alloc (Nat.le_refl _) _); have HBel2 := hid (show Below w.heap.size w w1b_ from HBel1.out.trans (hbxA.mono HBel1.out.size)); have A_2 := hid (show Bx w1_.heap.size (0) (.slice pA nA kA) w1b_ from (by rw [← hwA]; exact Bx.new _ _ _)); have Ac0_2 := A_2.out.c0; have Ac1_2 := A_2.out.c1; have LA_2 := hid (show LL (· < w1b_.heap.size) w1b_ (.slice pA nA kA) ([]) from hlA.up hbxA); have HWA := hid hwA; clear hwA hlA hbxA; clear hb1)
      | (rw [HWA.out])
      | (go_at_call 12; with_reducible refine (known_any w1b_ (HE.out.below HBel2.out)).mono ?_; rintro e w3_ ⟨rfl, hb3⟩; have HBel3 := hid (show Below w.heap.size w w3_ from HBel2.out.trans (hb3.mono HBel2.out.size)); have A_3 := hid (A_2.out.bel hb3); have Ac0_3 := A_3.out.c0; have Ac1_3 := A_3.out.c1; clear Ac0_2 Ac1_2; have LA_3 := hid (LA_2.out.bel hb3); clear hb3))
    go_ret
    exact ⟨rfl, HBel3.out⟩
  | true =>
    have HF := hid (FitF.of HN.out hok)
    have HOK := hid hok
    obtain ⟨N, hN⟩ : ∃ N, fitN n = N := ⟨_, rfl⟩
    rw [hN] at HF
    obtain ⟨ls, hls⟩ : ∃ ls, fitL N l = ls := ⟨_, rfl⟩
    rw [hls] at HF
    generalize textM N ls = txt at HF
    have HN2 := hid hN; have HL2 := hid hls
    clear hok hN hls
    go_enter Tryd.func6, Tryd.ntmps6
    go_wp2_with (first
      | (go_at_call 18; with_reducible refine (fit_yes HOK.out HN2.out HL2.out w HN.out HV.out HB.out).mono ?_; rintro e w1_ ⟨vA, rfl, hlA, hb1⟩; obtain ⟨pA, nA, kA, rfl⟩ := hlA.slc; have HBel1 := hid (show Below w.heap.size w w1_ from hb1); (obtain ⟨w1b_, hwA⟩ : ∃ x, w1_.alloc (.cells #[.int .i64 (N), .slice pA nA kA] 24) = x := ⟨_, rfl⟩); have hbxA : Below w1_.heap.size w1_ w1b_ := (by rw [← hwA]; exact (Below.refl _ _).alloc (Nat.le_refl _) _); have HBel2 := hid (show Below w.heap.size w w1b_ from HBel1.out.trans (hbxA.mono HBel1.out.size)); have A_2 := hid (show Bx w1_.heap.size (N) (.slice pA nA kA) w1b_ from (by rw [← hwA]; exact Bx.new _ _ _)); have Ac0_2 := A_2.out.c0; have Ac1_2 := A_2.out.c1; have LA_2 := hid (show LL (· < w1b_.heap.size) w1b_ (.slice pA nA kA) (ls) from hlA.up hbxA); have HWA := hid hwA; clear hwA hlA hbxA; clear hb1)
      | (rw [HWA.out])
      | (go_at_call 13; with_reducible refine (fmt_is HF.out.fmt w1b_ LA_2.out HF.out.bnd HF.out.n0 (HE.out.below HBel2.out)).mono ?_; rintro e w3_ ⟨rfl, hb3⟩; have HBel3 := hid (show Below w.heap.size w w3_ from HBel2.out.trans (hb3.mono HBel2.out.size)); have A_3 := hid (A_2.out.bel hb3); have Ac0_3 := A_3.out.c0; have Ac1_3 := A_3.out.c1; clear Ac0_2 Ac1_2; have LA_3 := hid (LA_2.out.bel hb3); clear hb3)
      | (go_at_call 15; with_reducible refine (prs_is HF.out.prs w3_ (HE.out.below HBel3.out)).mono ?_; rintro e w4_ ⟨vD, rfl, hlD, hb4⟩; obtain ⟨pD, nD, kD, rfl⟩ := hlD.slc; have HBel4 := hid (show Below w.heap.size w w4_ from HBel3.out.trans (hb4.mono HBel3.out.size)); have A_4 := hid (A_3.out.bel hb4); have Ac0_4 := A_4.out.c0; have Ac1_4 := A_4.out.c1; clear Ac0_3 Ac1_3; have LA_4 := hid (LA_3.out.bel hb4); (obtain ⟨w4b_, hwD⟩ : ∃ x, w4_.alloc (.cells #[.int .i64 (N), .slice pD nD kD] 24) = x := ⟨_, rfl⟩); have hbxD : Below w4_.heap.size w4_ w4b_ := (by rw [← hwD]; exact (Below.refl _ _).alloc (Nat.le_refl _) _); have HBel5 := hid (show Below w.heap.size w w4b_ from HBel4.out.trans (hbxD.mono HBel4.out.size)); have A_5 := hid (A_4.out.bel hbxD); have Ac0_5 := A_5.out.c0; have Ac1_5 := A_5.out.c1; clear Ac0_4 Ac1_4; have LA_5 := hid (LA_4.out.bel hbxD); have D_5 := hid (show Bx w4_.heap.size (N) (.slice pD nD kD) w4b_ from (by rw [← hwD]; exact Bx.new _ _ _)); have Dc0_5 := D_5.out.c0; have Dc1_5 := D_5.out.c1; have LD_5 := hid (show LL (· < w4b_.heap.size) w4b_ (.slice pD nD kD) (ls) from hlD.up hbxD); have HWD := hid hwD; clear hwD hlD hbxD; clear hb4)
      | (rw [HWD.out])
      | (go_at_call 17; with_reducible refine (eqf_is (decide_eq_true ⟨rfl, rfl⟩) LA_5.out LD_5.out).mono ?_; rintro e w6_ ⟨rfl, hb6⟩; have HBel6 := hid (show Below w.heap.size w w6_ from HBel5.out.trans (hb6.mono HBel5.out.size)); have A_6 := hid (A_5.out.bel hb6); have Ac0_6 := A_6.out.c0; have Ac1_6 := A_6.out.c1; clear Ac0_5 Ac1_5; have D_6 := hid (D_5.out.bel hb6); have Dc0_6 := D_6.out.c0; have Dc1_6 := D_6.out.c1; clear Dc0_5 Dc1_5; have LA_6 := hid (LA_5.out.bel hb6); have LD_6 := hid (LD_5.out.bel hb6); clear hb6)
      | (go_at_call 12; with_reducible refine (known_any w6_ (HE.out.below HBel6.out)).mono ?_; rintro e w7_ ⟨rfl, hb7⟩; have HBel7 := hid (show Below w.heap.size w w7_ from HBel6.out.trans (hb7.mono HBel6.out.size)); have A_7 := hid (A_6.out.bel hb7); have Ac0_7 := A_7.out.c0; have Ac1_7 := A_7.out.c1; clear Ac0_6 Ac1_6; have D_7 := hid (D_6.out.bel hb7); have Dc0_7 := D_7.out.c0; have Dc1_7 := D_7.out.c1; clear Dc0_6 Dc1_6; have LA_7 := hid (LA_6.out.bel hb7); have LD_7 := hid (LD_6.out.bel hb7); clear hb7))
    go_ret
    exact ⟨rfl, HBel7.out⟩
theorem LL.len {R : Nat → Prop} {w : World} {p : Option Addr} {n c : Nat} {ls : List (List Int)} (h : LL R w (.slice p n c) ls) : n = ls.length := by
  obtain ⟨vs, ⟨p', c', e, _⟩, h2, _⟩ := h
  cases e; exact h2
theorem same_eq {n m : Int} {l k : List (List Int)} {a b : Bs} (h1 : FitF n l a) (h2 : FitF m k b) : (a == b) = decide (n = m ∧ l = k) := by
  by_cases h : n = m ∧ l = k
  · rw [decide_eq_true h, h1.txt, h2.txt, h.1, h.2]; simp
  · rw [decide_eq_false h, beq_eq_false_iff_ne]
    intro e
    have := h1.len
    exact h (text_inj h1.fok h2.fok (by rw [← h1.txt]; omega) (by rw [← h1.txt, ← h2.txt]; exact e))
set_option maxRecDepth 100000 in
set_option maxHeartbeats 4000000 in
theorem same_walk (n m : Int) (v : Value) (l : List (List Int)) (u : Value) (k : List (List Int)) (w : World) (hn : 0 ≤ n ∧ n ≤ 255) (hm : 0 ≤ m ∧ m ≤ 255) (hv : L8 (· < w.heap.size) w v l) (hb : ∀ x ∈ l, ∀ a ∈ x, -128 ≤ a ∧ a ≤ 127) (hu : L8 (· < w.heap.size) w u k) (hc : ∀ x ∈ k, ∀ a ∈ x, -128 ≤ a ∧ a ≤ 127) (hE : Env w) :
    Calls Tryd.prog 9 #[.int .u8 n, .int .u8 m, v, u] w fun e w' => e = .returned (.bool true) ∧ Below w.heap.size w w' := by
  obtain ⟨ok, hok⟩ : ∃ b, fitOk l = b := ⟨_, rfl⟩
  obtain ⟨ok2, hok2⟩ : ∃ b, fitOk k = b := ⟨_, rfl⟩
  have HE := hid hE; have HV := hid hv; have HB := hid hb; have HN := hid hn; have HU := hid hu; have HC := hid hc; have HM := hid hm
  clear hE hv hb hn hu hc hm
  cases ok with
  | false =>
    cases ok2 with
    | false =>
      have HAOK := hid hok
      clear hok
      have HDOK := hid hok2
      clear hok2
      go_enter Tryd.func9, Tryd.ntmps9
      go_wp2_with (first
            | (go_at_call 18; with_reducible refine (fit_not HAOK.out w HN.out HV.out HB.out).mono ?_; rintro e w1_ ⟨vA, rfl, hlA, hb1⟩; obtain ⟨pA, nA, kA, rfl⟩ := hlA.slc; have HBel1 := hid (show Below w.heap.size w w1_ from hb1); (obtain ⟨w1b_, hwA⟩ : ∃ x, w1_.alloc (.cells #[.int .i64 (0), .slice pA nA kA] 24) = x := ⟨_, rfl⟩); have hbxA : Below w1_.heap.size w1_ w1b_ := (by rw [← hwA]; exact (Below.refl _ _).alloc (Nat.le_refl _) _); have HBel2 := hid (show Below w.heap.size w w1b_ from HBel1.out.trans (hbxA.mono HBel1.out.size)); have A_2 := hid (show Bx w1_.heap.size (0) (.slice pA nA kA) w1b_ from (by rw [← hwA]; exact Bx.new _ _ _)); have Ac0_2 := A_2.out.c0; have Ac1_2 := A_2.out.c1; have LA_2 := hid (show LL (· < w1b_.heap.size) w1b_ (.slice pA nA kA) ([]) from hlA.up hbxA); have HWA := hid hwA; clear hwA hlA hbxA; clear hb1)
            | (rw [HWA.out])
            | (go_at_call 18; with_reducible refine (fit_not HDOK.out w1b_ HM.out (HU.out.bel HBel2.out) HC.out).mono ?_; rintro e w3_ ⟨vD, rfl, hlD, hb3⟩; obtain ⟨pD, nD, kD, rfl⟩ := hlD.slc; have HBel3 := hid (show Below w.heap.size w w3_ from HBel2.out.trans (hb3.mono HBel2.out.size)); have A_3 := hid (A_2.out.bel hb3); have Ac0_3 := A_3.out.c0; have Ac1_3 := A_3.out.c1; clear Ac0_2 Ac1_2; have LA_3 := hid (LA_2.out.bel hb3); (obtain ⟨w3b_, hwD⟩ : ∃ x, w3_.alloc (.cells #[.int .i64 (0), .slice pD nD kD] 24) = x := ⟨_, rfl⟩); have hbxD : Below w3_.heap.size w3_ w3b_ := (by rw [← hwD]; exact (Below.refl _ _).alloc (Nat.le_refl _) _); have HBel4 := hid (show Below w.heap.size w w3b_ from HBel3.out.trans (hbxD.mono HBel3.out.size)); have A_4 := hid (A_3.out.bel hbxD); have Ac0_4 := A_4.out.c0; have Ac1_4 := A_4.out.c1; clear Ac0_3 Ac1_3; have LA_4 := hid (LA_3.out.bel hbxD); have D_4 := hid (show Bx w3_.heap.size (0) (.slice pD nD kD) w3b_ from (by rw [← hwD]; exact Bx.new _ _ _)); have Dc0_4 := D_4.out.c0; have Dc1_4 := D_4.out.c1; have LD_4 := hid (show LL (· < w3b_.heap.size) w3b_ (.slice pD nD kD) ([]) from hlD.up hbxD); have HWD := hid hwD; clear hwD hlD hbxD; clear hb3)
            | (rw [HWD.out])
            | (go_at_call 12; with_reducible refine (known_any w3b_ (HE.out.below HBel4.out)).mono ?_; rintro e w5_ ⟨rfl, hb5⟩; have HBel5 := hid (show Below w.heap.size w w5_ from HBel4.out.trans (hb5.mono HBel4.out.size)); have A_5 := hid (A_4.out.bel hb5); have Ac0_5 := A_5.out.c0; have Ac1_5 := A_5.out.c1; clear Ac0_4 Ac1_4; have D_5 := hid (D_4.out.bel hb5); have Dc0_5 := D_5.out.c0; have Dc1_5 := D_5.out.c1; clear Dc0_4 Dc1_4; have LA_5 := hid (LA_4.out.bel hb5); have LD_5 := hid (LD_4.out.bel hb5); clear hb5))
      go_ret
      exact ⟨rfl, HBel5.out⟩
    | true =>
      have HAOK := hid hok
      clear hok
      have HDF := hid (FitF.of HM.out hok2)
      have HDOK := hid hok2
      obtain ⟨ND, hND⟩ : ∃ N, fitN m = N := ⟨_, rfl⟩
      rw [hND] at HDF
      obtain ⟨lsD, hlsD⟩ : ∃ ls, fitL ND k = ls := ⟨_, rfl⟩
      rw [hlsD] at HDF
      generalize textM ND lsD = txtD at HDF
      have HDN := hid hND; have HDL := hid hlsD
      clear hok2 hND hlsD
      go_enter Tryd.func9, Tryd.ntmps9
      go_wp2_with (first
            | (go_at_call 18; with_reducible refine (fit_not HAOK.out w HN.out HV.out HB.out).mono ?_; rintro e w1_ ⟨vA, rfl, hlA, hb1⟩; obtain ⟨pA, nA, kA, rfl⟩ := hlA.slc; have HBel1 := hid (show Below w.heap.size w w1_ from hb1); (obtain ⟨w1b_, hwA⟩ : ∃ x, w1_.alloc (.cells #[.int .i64 (0), .slice pA nA kA] 24) = x := ⟨_, rfl⟩); have hbxA : Below w1_.heap.size w1_ w1b_ := (by rw [← hwA]; exact (Below.refl _ _).alloc (Nat.le_refl _) _); have HBel2 := hid (show Below w.heap.size w w1b_ from HBel1.out.trans (hbxA.mono HBel1.out.size)); have A_2 := hid (show Bx w1_.heap.size (0) (.slice pA nA kA) w1b_ from (by rw [← hwA]; exact Bx.new _ _ _)); have Ac0_2 := A_2.out.c0; have Ac1_2 := A_2.out.c1; have LA_2 := hid (show LL (· < w1b_.heap.size) w1b_ (.slice pA nA kA) ([]) from hlA.up hbxA); have HWA := hid hwA; clear hwA hlA hbxA; clear hb1)
            | (rw [HWA.out])
            | (go_at_call 18; with_reducible refine (fit_yes HDOK.out HDN.out HDL.out w1b_ HM.out (HU.out.bel HBel2.out) HC.out).mono ?_; rintro e w3_ ⟨vD, rfl, hlD, hb3⟩; obtain ⟨pD, nD, kD, rfl⟩ := hlD.slc; have HBel3 := hid (show Below w.heap.size w w3_ from HBel2.out.trans (hb3.mono HBel2.out.size)); have A_3 := hid (A_2.out.bel hb3); have Ac0_3 := A_3.out.c0; have Ac1_3 := A_3.out.c1; clear Ac0_2 Ac1_2; have LA_3 := hid (LA_2.out.bel hb3); (obtain ⟨w3b_, hwD⟩ : ∃ x, w3_.alloc (.cells #[.int .i64 (ND), .slice pD nD kD] 24) = x := ⟨_, rfl⟩); have hbxD : Below w3_.heap.size w3_ w3b_ := (by rw [← hwD]; exact (Below.refl _ _).alloc (Nat.le_refl _) _); have HBel4 := hid (show Below w.heap.size w w3b_ from HBel3.out.trans (hbxD.mono HBel3.out.size)); have A_4 := hid (A_3.out.bel hbxD); have Ac0_4 := A_4.out.c0; have Ac1_4 := A_4.out.c1; clear Ac0_3 Ac1_3; have LA_4 := hid (LA_3.out.bel hbxD); have D_4 := hid (show Bx w3_.heap.size (ND) (.slice pD nD kD) w3b_ from (by rw [← hwD]; exact Bx.new _ _ _)); have Dc0_4 := D_4.out.c0; have Dc1_4 := D_4.out.c1; have LD_4 := hid (show LL (· < w3b_.heap.size) w3b_ (.slice pD nD kD) (lsD) from hlD.up hbxD); have HWD := hid hwD; clear hwD hlD hbxD; clear hb3)
            | (rw [HWD.out])
            | (go_at_call 12; with_reducible refine (known_any w3b_ (HE.out.below HBel4.out)).mono ?_; rintro e w5_ ⟨rfl, hb5⟩; have HBel5 := hid (show Below w.heap.size w w5_ from HBel4.out.trans (hb5.mono HBel4.out.size)); have A_5 := hid (A_4.out.bel hb5); have Ac0_5 := A_5.out.c0; have Ac1_5 := A_5.out.c1; clear Ac0_4 Ac1_4; have D_5 := hid (D_4.out.bel hb5); have Dc0_5 := D_5.out.c0; have Dc1_5 := D_5.out.c1; clear Dc0_4 Dc1_4; have LA_5 := hid (LA_4.out.bel hb5); have LD_5 := hid (LD_4.out.bel hb5); clear hb5))
      go_ret
      exact ⟨rfl, HBel5.out⟩
  | true =>
    cases ok2 with
    | false =>
      have HAF := hid (FitF.of HN.out hok)
      have HAOK := hid hok
      obtain ⟨NA, hNA⟩ : ∃ N, fitN n = N := ⟨_, rfl⟩
      rw [hNA] at HAF
      obtain ⟨lsA, hlsA⟩ : ∃ ls, fitL NA l = ls := ⟨_, rfl⟩
      rw [hlsA] at HAF
      generalize textM NA lsA = txtA at HAF
      have HAN := hid hNA; have HAL := hid hlsA
      clear hok hNA hlsA
      have HDOK := hid hok2
      clear hok2
      go_enter Tryd.func9, Tryd.ntmps9
      go_wp2_with (first
            | (go_at_call 18; with_reducible refine (fit_yes HAOK.out HAN.out HAL.out w HN.out HV.out HB.out).mono ?_; rintro e w1_ ⟨vA, rfl, hlA, hb1⟩; obtain ⟨pA, nA, kA, rfl⟩ := hlA.slc; have HBel1 := hid (show Below w.heap.size w w1_ from hb1); (obtain ⟨w1b_, hwA⟩ : ∃ x, w1_.alloc (.cells #[.int .i64 (NA), .slice pA nA kA] 24) = x := ⟨_, rfl⟩); have hbxA : Below w1_.heap.size w1_ w1b_ := (by rw [← hwA]; exact (Below.refl _ _).alloc (Nat.le_refl _) _); have HBel2 := hid (show Below w.heap.size w w1b_ from HBel1.out.trans (hbxA.mono HBel1.out.size)); have A_2 := hid (show Bx w1_.heap.size (NA) (.slice pA nA kA) w1b_ from (by rw [← hwA]; exact Bx.new _ _ _)); have Ac0_2 := A_2.out.c0; have Ac1_2 := A_2.out.c1; have LA_2 := hid (show LL (· < w1b_.heap.size) w1b_ (.slice pA nA kA) (lsA) from hlA.up hbxA); have HWA := hid hwA; clear hwA hlA hbxA; clear hb1)
            | (rw [HWA.out])
            | (go_at_call 18; with_reducible refine (fit_not HDOK.out w1b_ HM.out (HU.out.bel HBel2.out) HC.out).mono ?_; rintro e w3_ ⟨vD, rfl, hlD, hb3⟩; obtain ⟨pD, nD, kD, rfl⟩ := hlD.slc; have HBel3 := hid (show Below w.heap.size w w3_ from HBel2.out.trans (hb3.mono HBel2.out.size)); have A_3 := hid (A_2.out.bel hb3); have Ac0_3 := A_3.out.c0; have Ac1_3 := A_3.out.c1; clear Ac0_2 Ac1_2; have LA_3 := hid (LA_2.out.bel hb3); (obtain ⟨w3b_, hwD⟩ : ∃ x, w3_.alloc (.cells #[.int .i64 (0), .slice pD nD kD] 24) = x := ⟨_, rfl⟩); have hbxD : Below w3_.heap.size w3_ w3b_ := (by rw [← hwD]; exact (Below.refl _ _).alloc (Nat.le_refl _) _); have HBel4 := hid (show Below w.heap.size w w3b_ from HBel3.out.trans (hbxD.mono HBel3.out.size)); have A_4 := hid (A_3.out.bel hbxD); have Ac0_4 := A_4.out.c0; have Ac1_4 := A_4.out.c1; clear Ac0_3 Ac1_3; have LA_4 := hid (LA_3.out.bel hbxD); have D_4 := hid (show Bx w3_.heap.size (0) (.slice pD nD kD) w3b_ from (by rw [← hwD]; exact Bx.new _ _ _)); have Dc0_4 := D_4.out.c0; have Dc1_4 := D_4.out.c1; have LD_4 := hid (show LL (· < w3b_.heap.size) w3b_ (.slice pD nD kD) ([]) from hlD.up hbxD); have HWD := hid hwD; clear hwD hlD hbxD; clear hb3)
            | (rw [HWD.out])
            | (go_at_call 12; with_reducible refine (known_any w3b_ (HE.out.below HBel4.out)).mono ?_; rintro e w5_ ⟨rfl, hb5⟩; have HBel5 := hid (show Below w.heap.size w w5_ from HBel4.out.trans (hb5.mono HBel4.out.size)); have A_5 := hid (A_4.out.bel hb5); have Ac0_5 := A_5.out.c0; have Ac1_5 := A_5.out.c1; clear Ac0_4 Ac1_4; have D_5 := hid (D_4.out.bel hb5); have Dc0_5 := D_5.out.c0; have Dc1_5 := D_5.out.c1; clear Dc0_4 Dc1_4; have LA_5 := hid (LA_4.out.bel hb5); have LD_5 := hid (LD_4.out.bel hb5); clear hb5))
      go_ret
      exact ⟨rfl, HBel5.out⟩
    | true =>
      have HAF := hid (FitF.of HN.out hok)
      have HAOK := hid hok
      obtain ⟨NA, hNA⟩ : ∃ N, fitN n = N := ⟨_, rfl⟩
      rw [hNA] at HAF
      obtain ⟨lsA, hlsA⟩ : ∃ ls, fitL NA l = ls := ⟨_, rfl⟩
      rw [hlsA] at HAF
      generalize textM NA lsA = txtA at HAF
      have HAN := hid hNA; have HAL := hid hlsA
      clear hok hNA hlsA
      have HDF := hid (FitF.of HM.out hok2)
      have HDOK := hid hok2
      obtain ⟨ND, hND⟩ : ∃ N, fitN m = N := ⟨_, rfl⟩
      rw [hND] at HDF
      obtain ⟨lsD, hlsD⟩ : ∃ ls, fitL ND k = ls := ⟨_, rfl⟩
      rw [hlsD] at HDF
      generalize textM ND lsD = txtD at HDF
      have HDN := hid hND; have HDL := hid hlsD
      clear hok2 hND hlsD
      obtain ⟨r, hr⟩ : ∃ r, decide (NA = ND ∧ lsA = lsD) = r := ⟨_, rfl⟩
      have heq : (txtA == txtD) = r := (same_eq HAF.out HDF.out).trans hr
      have HRR := hid hr
      clear hr
      go_enter Tryd.func9, Tryd.ntmps9
      go_wp2_with (first
            | (go_at_call 18; with_reducible refine (fit_yes HAOK.out HAN.out HAL.out w HN.out HV.out HB.out).mono ?_; rintro e w1_ ⟨vA, rfl, hlA, hb1⟩; obtain ⟨pA, nA, kA, rfl⟩ := hlA.slc; have HBel1 := hid (show Below w.heap.size w w1_ from hb1); (obtain ⟨w1b_, hwA⟩ : ∃ x, w1_.alloc (.cells #[.int .i64 (NA), .slice pA nA kA] 24) = x := ⟨_, rfl⟩); have hbxA : Below w1_.heap.size w1_ w1b_ := (by rw [← hwA]; exact (Below.refl _ _).alloc (Nat.le_refl _) _); have HBel2 := hid (show Below w.heap.size w w1b_ from HBel1.out.trans (hbxA.mono HBel1.out.size)); have A_2 := hid (show Bx w1_.heap.size (NA) (.slice pA nA kA) w1b_ from (by rw [← hwA]; exact Bx.new _ _ _)); have Ac0_2 := A_2.out.c0; have Ac1_2 := A_2.out.c1; have LA_2 := hid (show LL (· < w1b_.heap.size) w1b_ (.slice pA nA kA) (lsA) from hlA.up hbxA); have HWA := hid hwA; clear hwA hlA hbxA; clear hb1)
            | (rw [HWA.out])
            | (go_at_call 18; with_reducible refine (fit_yes HDOK.out HDN.out HDL.out w1b_ HM.out (HU.out.bel HBel2.out) HC.out).mono ?_; rintro e w3_ ⟨vD, rfl, hlD, hb3⟩; obtain ⟨pD, nD, kD, rfl⟩ := hlD.slc; have HBel3 := hid (show Below w.heap.size w w3_ from HBel2.out.trans (hb3.mono HBel2.out.size)); have A_3 := hid (A_2.out.bel hb3); have Ac0_3 := A_3.out.c0; have Ac1_3 := A_3.out.c1; clear Ac0_2 Ac1_2; have LA_3 := hid (LA_2.out.bel hb3); (obtain ⟨w3b_, hwD⟩ : ∃ x, w3_.alloc (.cells #[.int .i64 (ND), .slice pD nD kD] 24) = x := ⟨_, rfl⟩); have hbxD : Below w3_.heap.size w3_ w3b_ := (by rw [← hwD]; exact (Below.refl _ _).alloc (Nat.le_refl _) _); have HBel4 := hid (show Below w.heap.size w w3b_ from HBel3.out.trans (hbxD.mono HBel3.out.size)); have A_4 := hid (A_3.out.bel hbxD); have Ac0_4 := A_4.out.c0; have Ac1_4 := A_4.out.c1; clear Ac0_3 Ac1_3; have LA_4 := hid (LA_3.out.bel hbxD); have D_4 := hid (show Bx w3_.heap.size (ND) (.slice pD nD kD) w3b_ from (by rw [← hwD]; exact Bx.new _ _ _)); have Dc0_4 := D_4.out.c0; have Dc1_4 := D_4.out.c1; have LD_4 := hid (show LL (· < w3b_.heap.size) w3b_ (.slice pD nD kD) (lsD) from hlD.up hbxD); have HWD := hid hwD; clear hwD hlD hbxD; clear hb3)
            | (rw [HWD.out])
            | (go_at_call 13; with_reducible refine (fmt_is HAF.out.fmt w3b_ LA_4.out HAF.out.bnd HAF.out.n0 (HE.out.below HBel4.out)).mono ?_; rintro e w5_ ⟨rfl, hb5⟩; have HBel5 := hid (show Below w.heap.size w w5_ from HBel4.out.trans (hb5.mono HBel4.out.size)); have A_5 := hid (A_4.out.bel hb5); have Ac0_5 := A_5.out.c0; have Ac1_5 := A_5.out.c1; clear Ac0_4 Ac1_4; have D_5 := hid (D_4.out.bel hb5); have Dc0_5 := D_5.out.c0; have Dc1_5 := D_5.out.c1; clear Dc0_4 Dc1_4; have LA_5 := hid (LA_4.out.bel hb5); have LD_5 := hid (LD_4.out.bel hb5); clear hb5)
            | (go_at_call 13; with_reducible refine (fmt_is HDF.out.fmt w5_ LD_5.out HDF.out.bnd HDF.out.n0 (HE.out.below HBel5.out)).mono ?_; rintro e w6_ ⟨rfl, hb6⟩; have HBel6 := hid (show Below w.heap.size w w6_ from HBel5.out.trans (hb6.mono HBel5.out.size)); have A_6 := hid (A_5.out.bel hb6); have Ac0_6 := A_6.out.c0; have Ac1_6 := A_6.out.c1; clear Ac0_5 Ac1_5; have D_6 := hid (D_5.out.bel hb6); have Dc0_6 := D_6.out.c0; have Dc1_6 := D_6.out.c1; clear Dc0_5 Dc1_5; have LA_6 := hid (LA_5.out.bel hb6); have LD_6 := hid (LD_5.out.bel hb6); clear hb6)
            | (go_at_call 17; with_reducible refine (eqf_is HRR.out LA_6.out LD_6.out).mono ?_; rintro e w7_ ⟨rfl, hb7⟩; have HBel7 := hid (show Below w.heap.size w w7_ from HBel6.out.trans (hb7.mono HBel6.out.size)); have A_7 := hid (A_6.out.bel hb7); have Ac0_7 := A_7.out.c0; have Ac1_7 := A_7.out.c1; clear Ac0_6 Ac1_6; have D_7 := hid (D_6.out.bel hb7); have Dc0_7 := D_7.out.c0; have Dc1_7 := D_7.out.c1; clear Dc0_6 Dc1_6; have LA_7 := hid (LA_6.out.bel hb7); have LD_7 := hid (LD_6.out.bel hb7); clear hb7)
            | (go_at_call 12; with_reducible refine (known_any w7_ (HE.out.below HBel7.out)).mono ?_; rintro e w8_ ⟨rfl, hb8⟩; have HBel8 := hid (show Below w.heap.size w w8_ from HBel7.out.trans (hb8.mono HBel7.out.size)); have A_8 := hid (A_7.out.bel hb8); have Ac0_8 := A_8.out.c0; have Ac1_8 := A_8.out.c1; clear Ac0_7 Ac1_7; have D_8 := hid (D_7.out.bel hb8); have Dc0_8 := D_8.out.c0; have Dc1_8 := D_8.out.c1; clear Dc0_7 Dc1_7; have LA_8 := hid (LA_7.out.bel hb8); have LD_8 := hid (LD_7.out.bel hb8); clear hb8))
      go_ret
      exact ⟨rfl, HBel8.out⟩
set_option maxRecDepth 100000 in
set_option maxHeartbeats 4000000 in
theorem ends_walk (n : Int) (v : Value) (l : List (List Int)) (mo : Int) (w : World) (hn : 0 ≤ n ∧ n ≤ 255) (hv : L8 (· < w.heap.size) w v l) (hb : ∀ x ∈ l, ∀ a ∈ x, -128 ≤ a ∧ a ≤ 127) (hmo : -128 ≤ mo ∧ mo ≤ 127) (hE : Env w) :
    Calls Tryd.prog 10 #[.int .u8 n, v, .int .i8 mo] w fun e w' => e = .returned (.bool true) ∧ Below w.heap.size w w' := by
  obtain ⟨ok, hok⟩ : ∃ b, fitOk l = b := ⟨_, rfl⟩
  have HE := hid hE; have HV := hid hv; have HB := hid hb; have HN := hid hn
  clear hE hv hb hn
  cases ok with
  | false =>
    have HAOK := hid hok
    clear hok
    go_enter Tryd.func10, Tryd.ntmps10
    go_wp2_with (first
          | (go_at_call 18; with_reducible refine (fit_not HAOK.out w HN.out HV.out HB.out).mono ?_; rintro e w1_ ⟨vA, rfl, hlA, hb1⟩; obtain ⟨pA, nA, kA, rfl⟩ := hlA.slc; have HBel1 := hid (show Below w.heap.size w w1_ from hb1); (obtain ⟨w1b_, hwA⟩ : ∃ x, w1_.alloc (.cells #[.int .i64 (0), .slice pA nA kA] 24) = x := ⟨_, rfl⟩); have hbxA : Below w1_.heap.size w1_ w1b_ := (by rw [← hwA]; exact (Below.refl _ _).alloc (Nat.le_refl _) _); have HBel2 := hid (show Below w.heap.size w w1b_ from HBel1.out.trans (hbxA.mono HBel1.out.size)); have A_2 := hid (show Bx w1_.heap.size (0) (.slice pA nA kA) w1b_ from (by rw [← hwA]; exact Bx.new _ _ _)); have Ac0_2 := A_2.out.c0; have Ac1_2 := A_2.out.c1; have LA_2 := hid (show LL (· < w1b_.heap.size) w1b_ (.slice pA nA kA) ([]) from hlA.up hbxA); have HWA := hid hwA; clear hwA hlA hbxA; clear hb1)
          | (rw [HWA.out])
          | (go_at_call 12; with_reducible refine (known_any w1b_ (HE.out.below HBel2.out)).mono ?_; rintro e w3_ ⟨rfl, hb3⟩; have HBel3 := hid (show Below w.heap.size w w3_ from HBel2.out.trans (hb3.mono HBel2.out.size)); have A_3 := hid (A_2.out.bel hb3); have Ac0_3 := A_3.out.c0; have Ac1_3 := A_3.out.c1; clear Ac0_2 Ac1_2; have LA_3 := hid (LA_2.out.bel hb3); clear hb3))
    go_ret
    exact ⟨rfl, HBel3.out⟩
  | true =>
    have HAF := hid (FitF.of HN.out hok)
    have HAOK := hid hok
    obtain ⟨NA, hNA⟩ : ∃ N, fitN n = N := ⟨_, rfl⟩
    rw [hNA] at HAF
    obtain ⟨lsA, hlsA⟩ : ∃ ls, fitL NA l = ls := ⟨_, rfl⟩
    rw [hlsA] at HAF
    generalize textM NA lsA = txtA at HAF
    have HAN := hid hNA; have HAL := hid hlsA
    clear hok hNA hlsA
    rcases List.eq_nil_or_concat lsA with rfl | ⟨init, c, hic⟩
    · have hz0 : ∀ k : Nat, k = ([] : List (List Int)).length → ((k : Int) == 0) = true := fun k h => by rw [h]; rfl
      go_enter Tryd.func10, Tryd.ntmps10
      go_wp2_with (first
        | (go_at_call 18; with_reducible refine (fit_yes HAOK.out HAN.out HAL.out w HN.out HV.out HB.out).mono ?_; rintro e w1_ ⟨vA, rfl, hlA, hb1⟩; obtain ⟨pA, nA, kA, rfl⟩ := hlA.slc; have HBel1 := hid (show Below w.heap.size w w1_ from hb1); (obtain ⟨w1b_, hwA⟩ : ∃ x, w1_.alloc (.cells #[.int .i64 (NA), .slice pA nA kA] 24) = x := ⟨_, rfl⟩); have hbxA : Below w1_.heap.size w1_ w1b_ := (by rw [← hwA]; exact (Below.refl _ _).alloc (Nat.le_refl _) _); have HBel2 := hid (show Below w.heap.size w w1b_ from HBel1.out.trans (hbxA.mono HBel1.out.size)); have A_2 := hid (show Bx w1_.heap.size (NA) (.slice pA nA kA) w1b_ from (by rw [← hwA]; exact Bx.new _ _ _)); have Ac0_2 := A_2.out.c0; have Ac1_2 := A_2.out.c1; have LA_2 := hid (show LL (· < w1b_.heap.size) w1b_ (.slice pA nA kA) ([] : List (List Int)) from hlA.up hbxA); have HWA := hid hwA; clear hwA hlA hbxA; clear hb1; have hz := hz0 nA (LL.len LA_2.out); have HZ0 := hid hz0; clear hz0)
        | (rw [HWA.out])
        | (go_at_call 12; with_reducible refine (known_any w1b_ (HE.out.below HBel2.out)).mono ?_; rintro e w3_ ⟨rfl, hb3⟩; have HBel3 := hid (show Below w.heap.size w w3_ from HBel2.out.trans (hb3.mono HBel2.out.size)); have A_3 := hid (A_2.out.bel hb3); have Ac0_3 := A_3.out.c0; have Ac1_3 := A_3.out.c1; clear Ac0_2 Ac1_2; have LA_3 := hid (LA_2.out.bel hb3); clear hb3))
      go_ret
      exact ⟨rfl, HBel3.out⟩
    · have HIC := hid hic
      clear hic
      have hlen := HAF.out.len
      have hl3 : 10 ≤ txtA.length := by rw [HAF.out.txt]; unfold textM headT; simp only [List.length_append, List.length_cons, List.length_nil]; have := List.length_pos_iff.2 (itoa_ne NA); have := List.length_pos_iff.2 (itoa_ne (lsA.length : Int)); omega
      have s3 : decide ((txtA.length : Int) < 3) = false := by simp; omega
      obtain ⟨q, hq⟩ : ∃ q, txtA.length = q + 2 := ⟨txtA.length - 2, by omega⟩
      have hq1 : (txtA.length : Int) - 2 = (q : Int) := by omega
      have hq2 : q ≤ txtA.length := by omega
      obtain ⟨less, hle⟩ : ∃ x, txtA.take q = x := ⟨_, rfl⟩
      have hex : (⟨txtA.toArray⟩ : ByteArray).extract 0 q = ⟨less.toArray⟩ := by
        apply ByteArray.ext
        rw [ByteArray.data_extract, ← hle]
        apply Array.ext'
        simp
      have hfo := HAF.out.fok
      rw [HIC.out, List.concat_eq_append] at hfo
      obtain ⟨k1, hk1, hk2, hk3⟩ := parse_less hfo (by have h := HAF.out.txt; rw [HIC.out, List.concat_eq_append] at h; rw [← h]; omega)
      have htx : textM NA (init ++ [c]) = txtA := by have h := HAF.out.txt; rw [HIC.out, List.concat_eq_append] at h; exact h.symm
      rw [htx, show txtA.length - 2 = q by omega, hle] at hk1
      have HP1 := hid hk1
      have hsz : lsA.length = init.length + 1 := by rw [HIC.out]; simp
      have HSZ := hid (show ∀ k : Nat, k = lsA.length → k = init.length + 1 from fun k h => h.trans hsz)
      obtain ⟨bw, hbw, hbw2⟩ : ∃ b : UInt8, (b = 48 ∨ b = 49) ∧ b = (if mo.tmod 2 = 0 then 49 else 48) := by
        by_cases h : mo.tmod 2 = 0
        · exact ⟨49, .inr rfl, by rw [if_pos h]⟩
        · exact ⟨48, .inl rfl, by rw [if_neg h]⟩
      have hp2 := parse_more HAF.out.fok hbw (by rw [← HAF.out.txt]; omega)
      rw [← HAF.out.txt] at hp2
      obtain ⟨k2, hk4⟩ : ∃ k : Nat, lsA.length + 2 = k := ⟨_, rfl⟩
      rw [hk4] at hp2
      have HP2 := hid hp2
      have HK := hid (And.intro hk2 (And.intro hk3 hk4))
      have hy : ¬ 9223372036854775807 < txtA.length + 1 := by omega
      have hcat := cat1 txtA bw
      have HSZ2 := hid hsz
      clear hlen hl3 hq hle hfo hk1 hk2 hk3 htx hsz hp2 hk4 hbw
      by_cases hpar : mo.tmod 2 = 0
      · rw [if_pos hpar] at hbw2
        subst hbw2
        have hp : (mo.tmod 2 == 0) = true := by simp [hpar]
        clear hpar
        go_enter Tryd.func10, Tryd.ntmps10
        go_wp2_with (first
          | (go_at_call 18; with_reducible refine (fit_yes HAOK.out HAN.out HAL.out w HN.out HV.out HB.out).mono ?_; rintro e w1_ ⟨vA, rfl, hlA, hb1⟩; obtain ⟨pA, nA, kA, rfl⟩ := hlA.slc; have HBel1 := hid (show Below w.heap.size w w1_ from hb1); (obtain ⟨w1b_, hwA⟩ : ∃ x, w1_.alloc (.cells #[.int .i64 (NA), .slice pA nA kA] 24) = x := ⟨_, rfl⟩); have hbxA : Below w1_.heap.size w1_ w1b_ := (by rw [← hwA]; exact (Below.refl _ _).alloc (Nat.le_refl _) _); have HBel2 := hid (show Below w.heap.size w w1b_ from HBel1.out.trans (hbxA.mono HBel1.out.size)); have A_2 := hid (show Bx w1_.heap.size (NA) (.slice pA nA kA) w1b_ from (by rw [← hwA]; exact Bx.new _ _ _)); have Ac0_2 := A_2.out.c0; have Ac1_2 := A_2.out.c1; have LA_2 := hid (show LL (· < w1b_.heap.size) w1b_ (.slice pA nA kA) (lsA) from hlA.up hbxA); have HWA := hid hwA; clear hwA hlA hbxA; clear hb1; have hnA : nA = init.length + 1 := HSZ.out nA (LL.len LA_2.out); have z1 : ((nA : Int) == 0) = false := (by rw [beq_eq_false_iff_ne]; omega); have z2 : decide ((k1 : Int) < 1 + (nA : Int)) = false := (by have := HK.out.1; simp; omega); have z3 : decide (1 + (nA : Int) + 1 < (k1 : Int)) = false := (by have := HK.out.2.1; simp; omega); have z4 : ((k2 : Int) == 1 + (nA : Int) + 1) = true := (by have := HK.out.2.2; have := HSZ2.out; rw [beq_iff_eq]; omega); have HNA := hid hnA; have zb : nA ≤ 1048577 := (by have := HAF.out.fok.len; have := HSZ2.out; omega); clear hnA)
          | (rw [HWA.out])
          | (go_at_call 13; with_reducible refine (fmt_is HAF.out.fmt w1b_ LA_2.out HAF.out.bnd HAF.out.n0 (HE.out.below HBel2.out)).mono ?_; rintro e w3_ ⟨rfl, hb3⟩; have HBel3 := hid (show Below w.heap.size w w3_ from HBel2.out.trans (hb3.mono HBel2.out.size)); have A_3 := hid (A_2.out.bel hb3); have Ac0_3 := A_3.out.c0; have Ac1_3 := A_3.out.c1; clear Ac0_2 Ac1_2; have LA_3 := hid (LA_2.out.bel hb3); clear hb3)
          | (go_at_call 15; with_reducible refine (prs_is HP1.out w3_ (HE.out.below HBel3.out)).mono ?_; rintro e w4_ ⟨vP, rfl, hlP, hb4⟩; obtain ⟨pP, nP, kP, rfl⟩ := hlP.slc; have HBel4 := hid (show Below w.heap.size w w4_ from HBel3.out.trans (hb4.mono HBel3.out.size)); have A_4 := hid (A_3.out.bel hb4); have Ac0_4 := A_4.out.c0; have Ac1_4 := A_4.out.c1; clear Ac0_3 Ac1_3; have LA_4 := hid (LA_3.out.bel hb4); (obtain ⟨w4b_, hwP⟩ : ∃ x, w4_.alloc (.cells #[.int .i64 (0), .slice pP nP kP] 24) = x := ⟨_, rfl⟩); have hbxP : Below w4_.heap.size w4_ w4b_ := (by rw [← hwP]; exact (Below.refl _ _).alloc (Nat.le_refl _) _); have HBel5 := hid (show Below w.heap.size w w4b_ from HBel4.out.trans (hbxP.mono HBel4.out.size)); have A_5 := hid (A_4.out.bel hbxP); have Ac0_5 := A_5.out.c0; have Ac1_5 := A_5.out.c1; clear Ac0_4 Ac1_4; have LA_5 := hid (LA_4.out.bel hbxP); have P_5 := hid (show Bx w4_.heap.size (0) (.slice pP nP kP) w4b_ from (by rw [← hwP]; exact Bx.new _ _ _)); have Pc0_5 := P_5.out.c0; have Pc1_5 := P_5.out.c1; have LP_5 := hid (show LL (· < w4b_.heap.size) w4b_ (.slice pP nP kP) ([]) from hlP.up hbxP); have HWP := hid hwP; clear hwP hlP hbxP; clear hb4)
          | (rw [HWP.out])
          | (go_at_call 17; with_reducible refine (eqf_is (decide_eq_true ⟨rfl, rfl⟩) LP_5.out LL.nil').mono ?_; rintro e w6_ ⟨rfl, hb6⟩; have HBel6 := hid (show Below w.heap.size w w6_ from HBel5.out.trans (hb6.mono HBel5.out.size)); have A_6 := hid (A_5.out.bel hb6); have Ac0_6 := A_6.out.c0; have Ac1_6 := A_6.out.c1; clear Ac0_5 Ac1_5; have P_6 := hid (P_5.out.bel hb6); have Pc0_6 := P_6.out.c0; have Pc1_6 := P_6.out.c1; clear Pc0_5 Pc1_5; have LA_6 := hid (LA_5.out.bel hb6); have LP_6 := hid (LP_5.out.bel hb6); clear hb6)
          | (go_at_call 15; with_reducible refine (prs_is HP2.out w6_ (HE.out.below HBel6.out)).mono ?_; rintro e w7_ ⟨vQ, rfl, hlQ, hb7⟩; obtain ⟨pQ, nQ, kQ, rfl⟩ := hlQ.slc; have HBel7 := hid (show Below w.heap.size w w7_ from HBel6.out.trans (hb7.mono HBel6.out.size)); have A_7 := hid (A_6.out.bel hb7); have Ac0_7 := A_7.out.c0; have Ac1_7 := A_7.out.c1; clear Ac0_6 Ac1_6; have P_7 := hid (P_6.out.bel hb7); have Pc0_7 := P_7.out.c0; have Pc1_7 := P_7.out.c1; clear Pc0_6 Pc1_6; have LA_7 := hid (LA_6.out.bel hb7); have LP_7 := hid (LP_6.out.bel hb7); (obtain ⟨w7b_, hwQ⟩ : ∃ x, w7_.alloc (.cells #[.int .i64 (0), .slice pQ nQ kQ] 24) = x := ⟨_, rfl⟩); have hbxQ : Below w7_.heap.size w7_ w7b_ := (by rw [← hwQ]; exact (Below.refl _ _).alloc (Nat.le_refl _) _); have HBel8 := hid (show Below w.heap.size w w7b_ from HBel7.out.trans (hbxQ.mono HBel7.out.size)); have A_8 := hid (A_7.out.bel hbxQ); have Ac0_8 := A_8.out.c0; have Ac1_8 := A_8.out.c1; clear Ac0_7 Ac1_7; have P_8 := hid (P_7.out.bel hbxQ); have Pc0_8 := P_8.out.c0; have Pc1_8 := P_8.out.c1; clear Pc0_7 Pc1_7; have LA_8 := hid (LA_7.out.bel hbxQ); have LP_8 := hid (LP_7.out.bel hbxQ); have Q_8 := hid (show Bx w7_.heap.size (0) (.slice pQ nQ kQ) w7b_ from (by rw [← hwQ]; exact Bx.new _ _ _)); have Qc0_8 := Q_8.out.c0; have Qc1_8 := Q_8.out.c1; have LQ_8 := hid (show LL (· < w7b_.heap.size) w7b_ (.slice pQ nQ kQ) ([]) from hlQ.up hbxQ); have HWQ := hid hwQ; clear hwQ hlQ hbxQ; clear hb7)
          | (rw [HWQ.out])
          | (go_at_call 17; with_reducible refine (eqf_is (decide_eq_true ⟨rfl, rfl⟩) LQ_8.out LL.nil').mono ?_; rintro e w9_ ⟨rfl, hb9⟩; have HBel9 := hid (show Below w.heap.size w w9_ from HBel8.out.trans (hb9.mono HBel8.out.size)); have A_9 := hid (A_8.out.bel hb9); have Ac0_9 := A_9.out.c0; have Ac1_9 := A_9.out.c1; clear Ac0_8 Ac1_8; have P_9 := hid (P_8.out.bel hb9); have Pc0_9 := P_9.out.c0; have Pc1_9 := P_9.out.c1; clear Pc0_8 Pc1_8; have Q_9 := hid (Q_8.out.bel hb9); have Qc0_9 := Q_9.out.c0; have Qc1_9 := Q_9.out.c1; clear Qc0_8 Qc1_8; have LA_9 := hid (LA_8.out.bel hb9); have LP_9 := hid (LP_8.out.bel hb9); have LQ_9 := hid (LQ_8.out.bel hb9); clear hb9)
          | (go_at_call 12; with_reducible refine (known_any w9_ (HE.out.below HBel9.out)).mono ?_; rintro e w10_ ⟨rfl, hb10⟩; have HBel10 := hid (show Below w.heap.size w w10_ from HBel9.out.trans (hb10.mono HBel9.out.size)); have A_10 := hid (A_9.out.bel hb10); have Ac0_10 := A_10.out.c0; have Ac1_10 := A_10.out.c1; clear Ac0_9 Ac1_9; have P_10 := hid (P_9.out.bel hb10); have Pc0_10 := P_10.out.c0; have Pc1_10 := P_10.out.c1; clear Pc0_9 Pc1_9; have Q_10 := hid (Q_9.out.bel hb10); have Qc0_10 := Q_10.out.c0; have Qc1_10 := Q_10.out.c1; clear Qc0_9 Qc1_9; have LA_10 := hid (LA_9.out.bel hb10); have LP_10 := hid (LP_9.out.bel hb10); have LQ_10 := hid (LQ_9.out.bel hb10); clear hb10))
        go_ret
        exact ⟨rfl, HBel10.out⟩
      · rw [if_neg hpar] at hbw2
        subst hbw2
        have hp : (mo.tmod 2 == 0) = false := by simp [hpar]
        clear hpar
        go_enter Tryd.func10, Tryd.ntmps10
        go_wp2_with (first
          | (go_at_call 18; with_reducible refine (fit_yes HAOK.out HAN.out HAL.out w HN.out HV.out HB.out).mono ?_; rintro e w1_ ⟨vA, rfl, hlA, hb1⟩; obtain ⟨pA, nA, kA, rfl⟩ := hlA.slc; have HBel1 := hid (show Below w.heap.size w w1_ from hb1); (obtain ⟨w1b_, hwA⟩ : ∃ x, w1_.alloc (.cells #[.int .i64 (NA), .slice pA nA kA] 24) = x := ⟨_, rfl⟩); have hbxA : Below w1_.heap.size w1_ w1b_ := (by rw [← hwA]; exact (Below.refl _ _).alloc (Nat.le_refl _) _); have HBel2 := hid (show Below w.heap.size w w1b_ from HBel1.out.trans (hbxA.mono HBel1.out.size)); have A_2 := hid (show Bx w1_.heap.size (NA) (.slice pA nA kA) w1b_ from (by rw [← hwA]; exact Bx.new _ _ _)); have Ac0_2 := A_2.out.c0; have Ac1_2 := A_2.out.c1; have LA_2 := hid (show LL (· < w1b_.heap.size) w1b_ (.slice pA nA kA) (lsA) from hlA.up hbxA); have HWA := hid hwA; clear hwA hlA hbxA; clear hb1; have hnA : nA = init.length + 1 := HSZ.out nA (LL.len LA_2.out); have z1 : ((nA : Int) == 0) = false := (by rw [beq_eq_false_iff_ne]; omega); have z2 : decide ((k1 : Int) < 1 + (nA : Int)) = false := (by have := HK.out.1; simp; omega); have z3 : decide (1 + (nA : Int) + 1 < (k1 : Int)) = false := (by have := HK.out.2.1; simp; omega); have z4 : ((k2 : Int) == 1 + (nA : Int) + 1) = true := (by have := HK.out.2.2; have := HSZ2.out; rw [beq_iff_eq]; omega); have HNA := hid hnA; have zb : nA ≤ 1048577 := (by have := HAF.out.fok.len; have := HSZ2.out; omega); clear hnA)
          | (rw [HWA.out])
          | (go_at_call 13; with_reducible refine (fmt_is HAF.out.fmt w1b_ LA_2.out HAF.out.bnd HAF.out.n0 (HE.out.below HBel2.out)).mono ?_; rintro e w3_ ⟨rfl, hb3⟩; have HBel3 := hid (show Below w.heap.size w w3_ from HBel2.out.trans (hb3.mono HBel2.out.size)); have A_3 := hid (A_2.out.bel hb3); have Ac0_3 := A_3.out.c0; have Ac1_3 := A_3.out.c1; clear Ac0_2 Ac1_2; have LA_3 := hid (LA_2.out.bel hb3); clear hb3)
          | (go_at_call 15; with_reducible refine (prs_is HP1.out w3_ (HE.out.below HBel3.out)).mono ?_; rintro e w4_ ⟨vP, rfl, hlP, hb4⟩; obtain ⟨pP, nP, kP, rfl⟩ := hlP.slc; have HBel4 := hid (show Below w.heap.size w w4_ from HBel3.out.trans (hb4.mono HBel3.out.size)); have A_4 := hid (A_3.out.bel hb4); have Ac0_4 := A_4.out.c0; have Ac1_4 := A_4.out.c1; clear Ac0_3 Ac1_3; have LA_4 := hid (LA_3.out.bel hb4); (obtain ⟨w4b_, hwP⟩ : ∃ x, w4_.alloc (.cells #[.int .i64 (0), .slice pP nP kP] 24) = x := ⟨_, rfl⟩); have hbxP : Below w4_.heap.size w4_ w4b_ := (by rw [← hwP]; exact (Below.refl _ _).alloc (Nat.le_refl _) _); have HBel5 := hid (show Below w.heap.size w w4b_ from HBel4.out.trans (hbxP.mono HBel4.out.size)); have A_5 := hid (A_4.out.bel hbxP); have Ac0_5 := A_5.out.c0; have Ac1_5 := A_5.out.c1; clear Ac0_4 Ac1_4; have LA_5 := hid (LA_4.out.bel hbxP); have P_5 := hid (show Bx w4_.heap.size (0) (.slice pP nP kP) w4b_ from (by rw [← hwP]; exact Bx.new _ _ _)); have Pc0_5 := P_5.out.c0; have Pc1_5 := P_5.out.c1; have LP_5 := hid (show LL (· < w4b_.heap.size) w4b_ (.slice pP nP kP) ([]) from hlP.up hbxP); have HWP := hid hwP; clear hwP hlP hbxP; clear hb4)
          | (rw [HWP.out])
          | (go_at_call 17; with_reducible refine (eqf_is (decide_eq_true ⟨rfl, rfl⟩) LP_5.out LL.nil').mono ?_; rintro e w6_ ⟨rfl, hb6⟩; have HBel6 := hid (show Below w.heap.size w w6_ from HBel5.out.trans (hb6.mono HBel5.out.size)); have A_6 := hid (A_5.out.bel hb6); have Ac0_6 := A_6.out.c0; have Ac1_6 := A_6.out.c1; clear Ac0_5 Ac1_5; have P_6 := hid (P_5.out.bel hb6); have Pc0_6 := P_6.out.c0; have Pc1_6 := P_6.out.c1; clear Pc0_5 Pc1_5; have LA_6 := hid (LA_5.out.bel hb6); have LP_6 := hid (LP_5.out.bel hb6); clear hb6)
          | (go_at_call 15; with_reducible refine (prs_is HP2.out w6_ (HE.out.below HBel6.out)).mono ?_; rintro e w7_ ⟨vQ, rfl, hlQ, hb7⟩; obtain ⟨pQ, nQ, kQ, rfl⟩ := hlQ.slc; have HBel7 := hid (show Below w.heap.size w w7_ from HBel6.out.trans (hb7.mono HBel6.out.size)); have A_7 := hid (A_6.out.bel hb7); have Ac0_7 := A_7.out.c0; have Ac1_7 := A_7.out.c1; clear Ac0_6 Ac1_6; have P_7 := hid (P_6.out.bel hb7); have Pc0_7 := P_7.out.c0; have Pc1_7 := P_7.out.c1; clear Pc0_6 Pc1_6; have LA_7 := hid (LA_6.out.bel hb7); have LP_7 := hid (LP_6.out.bel hb7); (obtain ⟨w7b_, hwQ⟩ : ∃ x, w7_.alloc (.cells #[.int .i64 (0), .slice pQ nQ kQ] 24) = x := ⟨_, rfl⟩); have hbxQ : Below w7_.heap.size w7_ w7b_ := (by rw [← hwQ]; exact (Below.refl _ _).alloc (Nat.le_refl _) _); have HBel8 := hid (show Below w.heap.size w w7b_ from HBel7.out.trans (hbxQ.mono HBel7.out.size)); have A_8 := hid (A_7.out.bel hbxQ); have Ac0_8 := A_8.out.c0; have Ac1_8 := A_8.out.c1; clear Ac0_7 Ac1_7; have P_8 := hid (P_7.out.bel hbxQ); have Pc0_8 := P_8.out.c0; have Pc1_8 := P_8.out.c1; clear Pc0_7 Pc1_7; have LA_8 := hid (LA_7.out.bel hbxQ); have LP_8 := hid (LP_7.out.bel hbxQ); have Q_8 := hid (show Bx w7_.heap.size (0) (.slice pQ nQ kQ) w7b_ from (by rw [← hwQ]; exact Bx.new _ _ _)); have Qc0_8 := Q_8.out.c0; have Qc1_8 := Q_8.out.c1; have LQ_8 := hid (show LL (· < w7b_.heap.size) w7b_ (.slice pQ nQ kQ) ([]) from hlQ.up hbxQ); have HWQ := hid hwQ; clear hwQ hlQ hbxQ; clear hb7)
          | (rw [HWQ.out])
          | (go_at_call 17; with_reducible refine (eqf_is (decide_eq_true ⟨rfl, rfl⟩) LQ_8.out LL.nil').mono ?_; rintro e w9_ ⟨rfl, hb9⟩; have HBel9 := hid (show Below w.heap.size w w9_ from HBel8.out.trans (hb9.mono HBel8.out.size)); have A_9 := hid (A_8.out.bel hb9); have Ac0_9 := A_9.out.c0; have Ac1_9 := A_9.out.c1; clear Ac0_8 Ac1_8; have P_9 := hid (P_8.out.bel hb9); have Pc0_9 := P_9.out.c0; have Pc1_9 := P_9.out.c1; clear Pc0_8 Pc1_8; have Q_9 := hid (Q_8.out.bel hb9); have Qc0_9 := Q_9.out.c0; have Qc1_9 := Q_9.out.c1; clear Qc0_8 Qc1_8; have LA_9 := hid (LA_8.out.bel hb9); have LP_9 := hid (LP_8.out.bel hb9); have LQ_9 := hid (LQ_8.out.bel hb9); clear hb9)
          | (go_at_call 12; with_reducible refine (known_any w9_ (HE.out.below HBel9.out)).mono ?_; rintro e w10_ ⟨rfl, hb10⟩; have HBel10 := hid (show Below w.heap.size w w10_ from HBel9.out.trans (hb10.mono HBel9.out.size)); have A_10 := hid (A_9.out.bel hb10); have Ac0_10 := A_10.out.c0; have Ac1_10 := A_10.out.c1; clear Ac0_9 Ac1_9; have P_10 := hid (P_9.out.bel hb10); have Pc0_10 := P_10.out.c0; have Pc1_10 := P_10.out.c1; clear Pc0_9 Pc1_9; have Q_10 := hid (Q_9.out.bel hb10); have Qc0_10 := Q_10.out.c0; have Qc1_10 := Q_10.out.c1; clear Qc0_9 Qc1_9; have LA_10 := hid (LA_9.out.bel hb10); have LP_10 := hid (LP_9.out.bel hb10); have LQ_10 := hid (LQ_9.out.bel hb10); clear hb10))
        go_ret
        exact ⟨rfl, HBel10.out⟩

end Go.Proofs.YtfllhhgnflpagaaDoor
