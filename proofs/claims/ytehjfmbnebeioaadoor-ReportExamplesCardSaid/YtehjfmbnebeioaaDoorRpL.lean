/-
  The walks of package report: row, at, plain, bare.
-/
import Derived.Test.YtehjfmbnebeioaaDoorRpW
import Derived.Test.YtehjfmbnebeioaaDoorRegA
import Derived.IntWalk
namespace Go.Proofs.YtehjfmbnebeioaaDoor
set_option linter.unusedSimpArgs false
set_option linter.unusedVariables false
open Go.RowKit Go.Shelf
attribute [local go_sem] Oper.semAt_some

theorem size_mkS (s : By) : (⟨s.toArray⟩ : ByteArray).size = s.length := by show s.toArray.size = _; simp
theorem catS (a b : By) : (⟨a.toArray⟩ : ByteArray) ++ ⟨b.toArray⟩ = ⟨(a ++ b).toArray⟩ := by rw [ByteArray.mk_append_mk]
theorem nDigits_20 (n : Nat) (h : n ≤ 18446744073709551615) : Lib.nDigits n ≤ 20 := by
  rcases Nat.eq_zero_or_pos n with h0 | h0
  · subst h0; rw [Lib.nDigits_small (by omega)]; omega
  · have := Lib.numDigits_eq n h0 (by omega); split at this <;> omega
def numsT (l : List Nat) : By := l.flatMap (fun n => 32 :: Lib.decDigits n)
theorem numsT_snoc (l : List Nat) (k : Nat) (h : k < l.length) : numsT (l.take (k + 1)) = numsT (l.take k) ++ 32 :: Lib.decDigits l[k] := by
  unfold numsT
  rw [List.take_add_one, List.getElem?_eq_getElem h, List.flatMap_append]; simp
theorem numsT_len : ∀ (l : List Nat), (∀ x ∈ l, x ≤ 18446744073709551615) → (numsT l).length ≤ 21 * l.length
  | [], _ => by simp [numsT]
  | x :: r, h => by
    have h1 := nDigits_20 x (h x (by simp))
    have h2 := numsT_len r fun y hy => h y (by simp [hy])
    simp only [numsT, List.flatMap_cons, List.length_append, List.length_cons, Lib.decDigits_length] at h2 ⊢
    omega

theorem row_cat (a b c : By) : (⟨a.toArray⟩ : ByteArray) ++ (⟨#[32]⟩ ++ ⟨c.toArray⟩) = ⟨(a ++ 32 :: c).toArray⟩ := by
  simp only [ByteArray.mk_append_mk]; simp
theorem row_cat0 (a b : By) : (⟨a.toArray⟩ : ByteArray) ++ ⟨#[32]⟩ ++ ⟨b.toArray⟩ = ⟨(a ++ 32 :: b).toArray⟩ := by
  simp only [ByteArray.mk_append_mk]; simp
set_option maxRecDepth 100000 in
set_option maxHeartbeats 2000000 in
theorem row_any (word name : By) (l : List Nat) (v : Value) (R : Nat → Prop) (w : World) (hv : Nums R w v l) (hR : ∀ k, R k → k < w.heap.size) (hl : ∀ x ∈ l, x ≤ 18446744073709551615) (h1 : word.length ≤ 1000) (h2 : name.length ≤ 140737488355328)
    (hp : Lib.TabIs Tryd.prog w "internal/strconv.uint64pow10" .u64 Lib.pow10Tab) :
    Calls Tryd.prog 48 #[.string ⟨word.toArray⟩, .string ⟨name.toArray⟩, v] w fun e w' => e = .returned (.string ⟨(rowR word name l).toArray⟩) ∧ Below w.heap.size w w' := by
  obtain ⟨p, c, rfl, g1, g2, g3, hr⟩ := hv.op
  have HR := hid hr; have HP := hid hp; have HL := hid hl
  have z1 := size_mkS word
  have z2 := size_mkS name
  clear hv hr hp hl
  go_enter Tryd.func48, Tryd.ntmps48
  go_wp2_with fail
  go_loopw [7, 9, 16] (fun sv nv iv W => ∃ k : Nat, k ≤ l.length ∧ iv = .int .i64 k ∧ sv = .string ⟨(word ++ 32 :: name ++ numsT (l.take k)).toArray⟩ ∧ Below w.heap.size w W) (fun _ _ iv _ => l.length - (intOf iv).toNat)
  case atStart => exact ⟨0, Nat.zero_le _, rfl, by rw [row_cat0]; simp [numsT], Below.refl _ _⟩
  case round =>
    obtain ⟨k, hk, rfl, rfl, hb⟩ := hrel
    have HB := hid hb
    clear hb
    by_cases hlt : k < l.length
    · obtain ⟨b0, o0, rfl, hR0, hcc⟩ := HR.out.atN k hlt
      have hcell : wr.cell? ⟨b0, o0 + k, none⟩ = some (.int .u64 (l[k] : Int)) := (HB.out.cell (p := ⟨b0, o0 + k, none⟩) (hR _ hR0)).trans (hcc k hlt)
      have HSN := hid (numsT_snoc l k hlt)
      have hx := HL.out _ (List.getElem_mem hlt)
      have hnl := numsT_len (l.take k) (fun x hx => HL.out x (List.mem_of_mem_take hx))
      rw [List.length_take, Nat.min_eq_left hk] at hnl
      have hk63 : (k : Int) + 1 ≤ 9223372036854775807 := by omega
      clear hcc
      generalize l[k] = x at *
      have hd := nDigits_20 x hx
      have HF := hid (formatuint_any x (by omega) wr (tab_below HB.out (Nat.le_refl _) HP.out))
      obtain ⟨S, hS⟩ : ∃ S, word ++ 32 :: name ++ numsT (l.take k) = S := ⟨_, rfl⟩
      have hSl : S.length ≤ 9000000000000000 := by rw [← hS]; simp only [List.length_append, List.length_cons]; omega
      have z3 := size_mkS S
      have z4 : (⟨(Lib.decDigits x).toArray⟩ : ByteArray).size = Lib.nDigits x := (size_mkS _).trans (Lib.decDigits_length x)
      have HS := hid hS
      have HN := hid (show word ++ 32 :: name ++ numsT (l.take (k + 1)) = S ++ 32 :: Lib.decDigits x from by rw [HSN.out, ← hS]; simp)
      rw [hS]
      clear hS hx hnl HSN
      go_wp2_with fail
      refine HF.out.mono ?_
      rintro e w1 ⟨rfl, hb1⟩
      have HB1 := hid (HB.out.trans (hb1.mono HB.out.size))
      clear hb1
      generalize Lib.decDigits x = D at *
      generalize Lib.nDigits x = d at *
      go_wp2
      go_roundw
      case rel => exact ⟨k + 1, by omega, by go_num, by rw [HN.out, row_cat S [] D], HB1.out⟩
      case measure => simp [intOf]; omega
    · obtain rfl : k = l.length := by omega
      have HE := hid (show word ++ 32 :: name ++ numsT (l.take l.length) = rowR word name l from by unfold rowR numsT; rw [List.take_length])
      go_wp2
      go_ret
      exact ⟨by rw [← HE.out]; rfl, HB.out⟩

set_option maxRecDepth 100000 in
set_option maxHeartbeats 1000000 in
theorem at_any (ls : List (List Nat)) (v : Value) (i : Nat) (R : Nat → Prop) (w : World) (hv : NLL R w v ls) (hi : i ≤ 140737488355328) :
    Calls Tryd.prog 49 #[v, .int .i64 (i : Int)] w fun e w' => (∃ u, e = .returned u ∧ Nums R w u (atL ls i)) ∧ w = w' := by
  obtain ⟨p, c, vs, rfl, g1, g2, g3, hr, hl, hx⟩ := hv.op
  by_cases hlt : i < ls.length
  · obtain ⟨b0, o0, rfl, hR0, hcc⟩ := hr.at i (by omega)
    have hcell := hcc i (by omega)
    have hn := hx i hlt (by omega)
    have e : atL ls i = ls[i] := by unfold atL List.getD; rw [List.getElem?_eq_getElem hlt]; rfl
    have HE := hid e; have HN := hid hn
    have a1 : ¬ ls.length ≤ i := by omega
    clear hv hr hx hcc e hn
    generalize vs[i] = u at *
    go_enter Tryd.func49, Tryd.ntmps49
    go_wp2
    go_ret
    exact ⟨⟨u, rfl, by rw [HE.out]; exact HN.out⟩, rfl⟩
  · have e : atL ls i = [] := by unfold atL List.getD; rw [List.getElem?_eq_none (by omega)]; rfl
    have HE := hid e
    have a1 : ls.length ≤ i := by omega
    clear hv hr hx e
    go_enter Tryd.func49, Tryd.ntmps49
    go_wp2
    go_ret
    exact ⟨⟨_, rfl, by rw [HE.out]; exact Nums.nil⟩, rfl⟩

/-- A verdict by value; its two lists of lists lie at vA and vB. -/
def vdV (v : Vd) (vA vB : Value) : Value := .agg #[.int .u8 (v.kind : Int), .int .u8 (v.reason : Int), .int .i64 v.level, vA, vB, .bool v.imp, .bool v.pol, .int .i64 v.line, .int .i64 v.col, .int .i64 v.err]
/-- The numbers of a verdict are numbers of their kinds. -/
structure VdOk (v : Vd) : Prop where
  kind : v.kind ≤ 255
  reason : v.reason ≤ 255
  level : -9223372036854775808 ≤ v.level ∧ v.level ≤ 9223372036854775807
  line : -9223372036854775808 ≤ v.line ∧ v.line ≤ 9223372036854775807
  col : -9223372036854775808 ≤ v.col ∧ v.col ≤ 9223372036854775807
  err : -9223372036854775808 ≤ v.err ∧ v.err ≤ 9223372036854775807
  A : ∀ l ∈ v.A, ∀ x ∈ l, x ≤ 18446744073709551615
  B : ∀ l ∈ v.B, ∀ x ∈ l, x ≤ 18446744073709551615

set_option maxRecDepth 100000 in
set_option maxHeartbeats 8000000 in
theorem bare_any0 (k r : Nat) (lv : Int) (A B : List (List Nat)) (nA nB : Nat) (imp pol : Bool) (ln co er : Int) (pA pB : Option Addr) (cA cB : Nat) (w : World) (hA0 : A.length = nA) (hB0 : B.length = nB) :
    Calls Tryd.prog 31 #[.agg #[.int .u8 (k : Int), .int .u8 (r : Int), .int .i64 lv, .slice pA nA cA, .slice pB nB cB, .bool imp, .bool pol, .int .i64 ln, .int .i64 co, .int .i64 er]] w fun e w' => e = .returned (.bool (bareR ⟨k, r, lv, A, B, imp, pol, ln, co, er⟩)) ∧ Below w.heap.size w w' := by
  have HA0 := hid hA0; have HB0 := hid hB0
  clear hA0 hB0
  by_cases h2 : k = 2
  · have t1 : ((k : Int) == 2) = true := by rw [beq_iff_eq]; omega
    have t2 : ((k : Int) != 2) = false := by rw [bne_eq_false_iff_eq]; omega
    have Hh2 := hid h2
    clear h2
    have u1 : ((k : Int) == 1) = false := by first | (rw [beq_eq_false_iff_ne]; omega) | (have := Hh2.out; rw [beq_eq_false_iff_ne]; omega) | (have := Hh1.out; rw [beq_eq_false_iff_ne]; omega)
    have u2 : ((k : Int) != 1) = true := by first | (rw [bne_iff_ne]; omega) | (have := Hh2.out; rw [bne_iff_ne]; omega) | (have := Hh1.out; rw [bne_iff_ne]; omega)
    have H1 := hid (show ¬ k = 1 from by have := Hh2.out; omega)
    by_cases hlv : lv = 0
    · have v1 : (lv == 0) = true := by rw [beq_iff_eq]; omega
      have v2 : (lv != 0) = false := by rw [bne_eq_false_iff_eq]; omega
      have Hhlv := hid hlv
      clear hlv
      by_cases ha : 0 < nA
      · have l1 : 0 < nA := ha
        have HnA := hid (show 0 < A.length from by rw [HA0.out]; exact ha)
        have Hha := hid ha
        clear ha
        have HB := hid (show bareR ⟨k, r, lv, A, B, imp, pol, ln, co, er⟩ = false from by unfold bareR; simp [Hh2.out, H1.out, Hhlv.out, HnA.out])
        go_enter Tryd.func31, Tryd.ntmps31
        go_wp2
        go_ret
        exact ⟨ret_b (by rw [HB.out]), (Below.refl _ _).alloc (Nat.le_refl _) _⟩
      · have l1 : ¬ 0 < nA := ha
        have l2 : nA = 0 := by omega
        have HnA := hid (show A = [] from List.eq_nil_of_length_eq_zero (by rw [HA0.out]; omega))
        have Hha := hid ha
        clear ha
        by_cases hb : 0 < nB
        · have j1 : 0 < nB := hb
          have HnB := hid (show 0 < B.length from by rw [HB0.out]; exact hb)
          have Hhb := hid hb
          clear hb
          have HB := hid (show bareR ⟨k, r, lv, A, B, imp, pol, ln, co, er⟩ = false from by unfold bareR; simp [Hh2.out, H1.out, Hhlv.out, HnA.out, HnB.out])
          go_enter Tryd.func31, Tryd.ntmps31
          go_wp2
          go_ret
          exact ⟨ret_b (by rw [HB.out]), (Below.refl _ _).alloc (Nat.le_refl _) _⟩
        · have j1 : ¬ 0 < nB := hb
          have j2 : nB = 0 := by omega
          have HnB := hid (show B = [] from List.eq_nil_of_length_eq_zero (by rw [HB0.out]; omega))
          have Hhb := hid hb
          clear hb
          by_cases himp : imp = true
          · have i1 := himp
            have Hhimp := hid himp
            clear himp
            have HB := hid (show bareR ⟨k, r, lv, A, B, imp, pol, ln, co, er⟩ = false from by unfold bareR; simp [Hh2.out, H1.out, Hhlv.out, HnA.out, HnB.out, Hhimp.out])
            go_enter Tryd.func31, Tryd.ntmps31
            go_wp2
            go_ret
            exact ⟨ret_b (by rw [HB.out]), (Below.refl _ _).alloc (Nat.le_refl _) _⟩
          · have i1 : imp = false := by simpa using himp
            replace himp := i1
            have Hhimp := hid himp
            clear himp
            have q1 : ((k : Int) == 3) = false := by first | (rw [beq_eq_false_iff_ne]; omega) | (have := Hh2.out; rw [beq_eq_false_iff_ne]; omega) | (have := Hh1.out; rw [beq_eq_false_iff_ne]; omega)
            have q2 : ((k : Int) != 3) = true := by first | (rw [bne_iff_ne]; omega) | (have := Hh2.out; rw [bne_iff_ne]; omega) | (have := Hh1.out; rw [bne_iff_ne]; omega)
            have H3 := hid (show ¬ k = 3 from by first | (have := Hh2.out; omega) | (have := Hh1.out; omega))
            by_cases hpol : pol = true
            · have p1 := hpol
              have Hhpol := hid hpol
              clear hpol
              have HB := hid (show bareR ⟨k, r, lv, A, B, imp, pol, ln, co, er⟩ = false from by unfold bareR; simp [Hh2.out, H1.out, Hhlv.out, HnA.out, HnB.out, Hhimp.out, H3.out, Hhpol.out])
              go_enter Tryd.func31, Tryd.ntmps31
              go_wp2
              go_ret
              exact ⟨ret_b (by rw [HB.out]), (Below.refl _ _).alloc (Nat.le_refl _) _⟩
            · have p1 : pol = false := by simpa using hpol
              replace hpol := p1
              have Hhpol := hid hpol
              clear hpol
              by_cases hln : ln = 0
              · have z1 : (ln == 0) = true := by rw [beq_iff_eq]; omega
                have z2 : (ln != 0) = false := by rw [bne_eq_false_iff_eq]; omega
                have Hhln := hid hln
                clear hln
                by_cases hco : co = 0
                · have y1 : (co == 0) = true := by rw [beq_iff_eq]; omega
                  have y2 : (co != 0) = false := by rw [bne_eq_false_iff_eq]; omega
                  have Hhco := hid hco
                  clear hco
                  by_cases her : er = 0
                  · have x1 : (er == 0) = true := by rw [beq_iff_eq]; omega
                    have x2 : (er != 0) = false := by rw [bne_eq_false_iff_eq]; omega
                    have Hher := hid her
                    clear her
                    have HB := hid (show bareR ⟨k, r, lv, A, B, imp, pol, ln, co, er⟩ = true from by unfold bareR; simp [Hh2.out, H1.out, Hhlv.out, HnA.out, HnB.out, Hhimp.out, H3.out, Hhpol.out, Hhln.out, Hhco.out, Hher.out])
                    go_enter Tryd.func31, Tryd.ntmps31
                    go_wp2
                    go_ret
                    exact ⟨ret_b (by rw [HB.out]), (Below.refl _ _).alloc (Nat.le_refl _) _⟩
                  · have x1 : (er == 0) = false := by first | (rw [beq_eq_false_iff_ne]; omega) | (have := Hh2.out; rw [beq_eq_false_iff_ne]; omega) | (have := Hh1.out; rw [beq_eq_false_iff_ne]; omega)
                    have x2 : (er != 0) = true := by first | (rw [bne_iff_ne]; omega) | (have := Hh2.out; rw [bne_iff_ne]; omega) | (have := Hh1.out; rw [bne_iff_ne]; omega)
                    have Hher := hid her
                    clear her
                    have HB := hid (show bareR ⟨k, r, lv, A, B, imp, pol, ln, co, er⟩ = false from by unfold bareR; simp [Hh2.out, H1.out, Hhlv.out, HnA.out, HnB.out, Hhimp.out, H3.out, Hhpol.out, Hhln.out, Hhco.out, Hher.out])
                    go_enter Tryd.func31, Tryd.ntmps31
                    go_wp2
                    go_ret
                    exact ⟨ret_b (by rw [HB.out]), (Below.refl _ _).alloc (Nat.le_refl _) _⟩
                · have y1 : (co == 0) = false := by first | (rw [beq_eq_false_iff_ne]; omega) | (have := Hh2.out; rw [beq_eq_false_iff_ne]; omega) | (have := Hh1.out; rw [beq_eq_false_iff_ne]; omega)
                  have y2 : (co != 0) = true := by first | (rw [bne_iff_ne]; omega) | (have := Hh2.out; rw [bne_iff_ne]; omega) | (have := Hh1.out; rw [bne_iff_ne]; omega)
                  have Hhco := hid hco
                  clear hco
                  have HB := hid (show bareR ⟨k, r, lv, A, B, imp, pol, ln, co, er⟩ = false from by unfold bareR; simp [Hh2.out, H1.out, Hhlv.out, HnA.out, HnB.out, Hhimp.out, H3.out, Hhpol.out, Hhln.out, Hhco.out])
                  go_enter Tryd.func31, Tryd.ntmps31
                  go_wp2
                  go_ret
                  exact ⟨ret_b (by rw [HB.out]), (Below.refl _ _).alloc (Nat.le_refl _) _⟩
              · have z1 : (ln == 0) = false := by first | (rw [beq_eq_false_iff_ne]; omega) | (have := Hh2.out; rw [beq_eq_false_iff_ne]; omega) | (have := Hh1.out; rw [beq_eq_false_iff_ne]; omega)
                have z2 : (ln != 0) = true := by first | (rw [bne_iff_ne]; omega) | (have := Hh2.out; rw [bne_iff_ne]; omega) | (have := Hh1.out; rw [bne_iff_ne]; omega)
                have Hhln := hid hln
                clear hln
                have HB := hid (show bareR ⟨k, r, lv, A, B, imp, pol, ln, co, er⟩ = false from by unfold bareR; simp [Hh2.out, H1.out, Hhlv.out, HnA.out, HnB.out, Hhimp.out, H3.out, Hhpol.out, Hhln.out])
                go_enter Tryd.func31, Tryd.ntmps31
                go_wp2
                go_ret
                exact ⟨ret_b (by rw [HB.out]), (Below.refl _ _).alloc (Nat.le_refl _) _⟩
    · have v1 : (lv == 0) = false := by first | (rw [beq_eq_false_iff_ne]; omega) | (have := Hh2.out; rw [beq_eq_false_iff_ne]; omega) | (have := Hh1.out; rw [beq_eq_false_iff_ne]; omega)
      have v2 : (lv != 0) = true := by first | (rw [bne_iff_ne]; omega) | (have := Hh2.out; rw [bne_iff_ne]; omega) | (have := Hh1.out; rw [bne_iff_ne]; omega)
      have Hhlv := hid hlv
      clear hlv
      have HB := hid (show bareR ⟨k, r, lv, A, B, imp, pol, ln, co, er⟩ = false from by unfold bareR; simp [Hh2.out, H1.out, Hhlv.out])
      go_enter Tryd.func31, Tryd.ntmps31
      go_wp2
      go_ret
      exact ⟨ret_b (by rw [HB.out]), (Below.refl _ _).alloc (Nat.le_refl _) _⟩
  · have t1 : ((k : Int) == 2) = false := by first | (rw [beq_eq_false_iff_ne]; omega) | (have := Hh2.out; rw [beq_eq_false_iff_ne]; omega) | (have := Hh1.out; rw [beq_eq_false_iff_ne]; omega)
    have t2 : ((k : Int) != 2) = true := by first | (rw [bne_iff_ne]; omega) | (have := Hh2.out; rw [bne_iff_ne]; omega) | (have := Hh1.out; rw [bne_iff_ne]; omega)
    have Hh2 := hid h2
    clear h2
    by_cases hr : r = 0
    · have s1 : ((r : Int) == 0) = true := by rw [beq_iff_eq]; omega
      have s2 : ((r : Int) != 0) = false := by rw [bne_eq_false_iff_eq]; omega
      have Hhr := hid hr
      clear hr
      by_cases h1 : k = 1
      · have u1 : ((k : Int) == 1) = true := by rw [beq_iff_eq]; omega
        have u2 : ((k : Int) != 1) = false := by rw [bne_eq_false_iff_eq]; omega
        have Hh1 := hid h1
        clear h1
        have q1 : ((k : Int) == 3) = false := by first | (rw [beq_eq_false_iff_ne]; omega) | (have := Hh2.out; rw [beq_eq_false_iff_ne]; omega) | (have := Hh1.out; rw [beq_eq_false_iff_ne]; omega)
        have q2 : ((k : Int) != 3) = true := by first | (rw [bne_iff_ne]; omega) | (have := Hh2.out; rw [bne_iff_ne]; omega) | (have := Hh1.out; rw [bne_iff_ne]; omega)
        have H3 := hid (show ¬ k = 3 from by first | (have := Hh2.out; omega) | (have := Hh1.out; omega))
        by_cases hpol : pol = true
        · have p1 := hpol
          have Hhpol := hid hpol
          clear hpol
          have HB := hid (show bareR ⟨k, r, lv, A, B, imp, pol, ln, co, er⟩ = false from by unfold bareR; simp [Hh2.out, Hhr.out, Hh1.out, H3.out, Hhpol.out])
          go_enter Tryd.func31, Tryd.ntmps31
          go_wp2
          go_ret
          exact ⟨ret_b (by rw [HB.out]), (Below.refl _ _).alloc (Nat.le_refl _) _⟩
        · have p1 : pol = false := by simpa using hpol
          replace hpol := p1
          have Hhpol := hid hpol
          clear hpol
          by_cases hln : ln = 0
          · have z1 : (ln == 0) = true := by rw [beq_iff_eq]; omega
            have z2 : (ln != 0) = false := by rw [bne_eq_false_iff_eq]; omega
            have Hhln := hid hln
            clear hln
            by_cases hco : co = 0
            · have y1 : (co == 0) = true := by rw [beq_iff_eq]; omega
              have y2 : (co != 0) = false := by rw [bne_eq_false_iff_eq]; omega
              have Hhco := hid hco
              clear hco
              by_cases her : er = 0
              · have x1 : (er == 0) = true := by rw [beq_iff_eq]; omega
                have x2 : (er != 0) = false := by rw [bne_eq_false_iff_eq]; omega
                have Hher := hid her
                clear her
                have HB := hid (show bareR ⟨k, r, lv, A, B, imp, pol, ln, co, er⟩ = true from by unfold bareR; simp [Hh2.out, Hhr.out, Hh1.out, H3.out, Hhpol.out, Hhln.out, Hhco.out, Hher.out])
                go_enter Tryd.func31, Tryd.ntmps31
                go_wp2
                go_ret
                exact ⟨ret_b (by rw [HB.out]), (Below.refl _ _).alloc (Nat.le_refl _) _⟩
              · have x1 : (er == 0) = false := by first | (rw [beq_eq_false_iff_ne]; omega) | (have := Hh2.out; rw [beq_eq_false_iff_ne]; omega) | (have := Hh1.out; rw [beq_eq_false_iff_ne]; omega)
                have x2 : (er != 0) = true := by first | (rw [bne_iff_ne]; omega) | (have := Hh2.out; rw [bne_iff_ne]; omega) | (have := Hh1.out; rw [bne_iff_ne]; omega)
                have Hher := hid her
                clear her
                have HB := hid (show bareR ⟨k, r, lv, A, B, imp, pol, ln, co, er⟩ = false from by unfold bareR; simp [Hh2.out, Hhr.out, Hh1.out, H3.out, Hhpol.out, Hhln.out, Hhco.out, Hher.out])
                go_enter Tryd.func31, Tryd.ntmps31
                go_wp2
                go_ret
                exact ⟨ret_b (by rw [HB.out]), (Below.refl _ _).alloc (Nat.le_refl _) _⟩
            · have y1 : (co == 0) = false := by first | (rw [beq_eq_false_iff_ne]; omega) | (have := Hh2.out; rw [beq_eq_false_iff_ne]; omega) | (have := Hh1.out; rw [beq_eq_false_iff_ne]; omega)
              have y2 : (co != 0) = true := by first | (rw [bne_iff_ne]; omega) | (have := Hh2.out; rw [bne_iff_ne]; omega) | (have := Hh1.out; rw [bne_iff_ne]; omega)
              have Hhco := hid hco
              clear hco
              have HB := hid (show bareR ⟨k, r, lv, A, B, imp, pol, ln, co, er⟩ = false from by unfold bareR; simp [Hh2.out, Hhr.out, Hh1.out, H3.out, Hhpol.out, Hhln.out, Hhco.out])
              go_enter Tryd.func31, Tryd.ntmps31
              go_wp2
              go_ret
              exact ⟨ret_b (by rw [HB.out]), (Below.refl _ _).alloc (Nat.le_refl _) _⟩
          · have z1 : (ln == 0) = false := by first | (rw [beq_eq_false_iff_ne]; omega) | (have := Hh2.out; rw [beq_eq_false_iff_ne]; omega) | (have := Hh1.out; rw [beq_eq_false_iff_ne]; omega)
            have z2 : (ln != 0) = true := by first | (rw [bne_iff_ne]; omega) | (have := Hh2.out; rw [bne_iff_ne]; omega) | (have := Hh1.out; rw [bne_iff_ne]; omega)
            have Hhln := hid hln
            clear hln
            have HB := hid (show bareR ⟨k, r, lv, A, B, imp, pol, ln, co, er⟩ = false from by unfold bareR; simp [Hh2.out, Hhr.out, Hh1.out, H3.out, Hhpol.out, Hhln.out])
            go_enter Tryd.func31, Tryd.ntmps31
            go_wp2
            go_ret
            exact ⟨ret_b (by rw [HB.out]), (Below.refl _ _).alloc (Nat.le_refl _) _⟩
      · have u1 : ((k : Int) == 1) = false := by first | (rw [beq_eq_false_iff_ne]; omega) | (have := Hh2.out; rw [beq_eq_false_iff_ne]; omega) | (have := Hh1.out; rw [beq_eq_false_iff_ne]; omega)
        have u2 : ((k : Int) != 1) = true := by first | (rw [bne_iff_ne]; omega) | (have := Hh2.out; rw [bne_iff_ne]; omega) | (have := Hh1.out; rw [bne_iff_ne]; omega)
        have Hh1 := hid h1
        clear h1
        by_cases hlv : lv = 0
        · have v1 : (lv == 0) = true := by rw [beq_iff_eq]; omega
          have v2 : (lv != 0) = false := by rw [bne_eq_false_iff_eq]; omega
          have Hhlv := hid hlv
          clear hlv
          by_cases ha : 0 < nA
          · have l1 : 0 < nA := ha
            have HnA := hid (show 0 < A.length from by rw [HA0.out]; exact ha)
            have Hha := hid ha
            clear ha
            have HB := hid (show bareR ⟨k, r, lv, A, B, imp, pol, ln, co, er⟩ = false from by unfold bareR; simp [Hh2.out, Hhr.out, Hh1.out, Hhlv.out, HnA.out])
            go_enter Tryd.func31, Tryd.ntmps31
            go_wp2
            go_ret
            exact ⟨ret_b (by rw [HB.out]), (Below.refl _ _).alloc (Nat.le_refl _) _⟩
          · have l1 : ¬ 0 < nA := ha
            have l2 : nA = 0 := by omega
            have HnA := hid (show A = [] from List.eq_nil_of_length_eq_zero (by rw [HA0.out]; omega))
            have Hha := hid ha
            clear ha
            by_cases hb : 0 < nB
            · have j1 : 0 < nB := hb
              have HnB := hid (show 0 < B.length from by rw [HB0.out]; exact hb)
              have Hhb := hid hb
              clear hb
              have HB := hid (show bareR ⟨k, r, lv, A, B, imp, pol, ln, co, er⟩ = false from by unfold bareR; simp [Hh2.out, Hhr.out, Hh1.out, Hhlv.out, HnA.out, HnB.out])
              go_enter Tryd.func31, Tryd.ntmps31
              go_wp2
              go_ret
              exact ⟨ret_b (by rw [HB.out]), (Below.refl _ _).alloc (Nat.le_refl _) _⟩
            · have j1 : ¬ 0 < nB := hb
              have j2 : nB = 0 := by omega
              have HnB := hid (show B = [] from List.eq_nil_of_length_eq_zero (by rw [HB0.out]; omega))
              have Hhb := hid hb
              clear hb
              by_cases himp : imp = true
              · have i1 := himp
                have Hhimp := hid himp
                clear himp
                have HB := hid (show bareR ⟨k, r, lv, A, B, imp, pol, ln, co, er⟩ = false from by unfold bareR; simp [Hh2.out, Hhr.out, Hh1.out, Hhlv.out, HnA.out, HnB.out, Hhimp.out])
                go_enter Tryd.func31, Tryd.ntmps31
                go_wp2
                go_ret
                exact ⟨ret_b (by rw [HB.out]), (Below.refl _ _).alloc (Nat.le_refl _) _⟩
              · have i1 : imp = false := by simpa using himp
                replace himp := i1
                have Hhimp := hid himp
                clear himp
                by_cases h3 : k = 3
                · have q1 : ((k : Int) == 3) = true := by rw [beq_iff_eq]; omega
                  have q2 : ((k : Int) != 3) = false := by rw [bne_eq_false_iff_eq]; omega
                  have Hh3 := hid h3
                  clear h3
                  have HB := hid (show bareR ⟨k, r, lv, A, B, imp, pol, ln, co, er⟩ = true from by unfold bareR; simp [Hh2.out, Hhr.out, Hh1.out, Hhlv.out, HnA.out, HnB.out, Hhimp.out, Hh3.out])
                  go_enter Tryd.func31, Tryd.ntmps31
                  go_wp2
                  go_ret
                  exact ⟨ret_b (by rw [HB.out]), (Below.refl _ _).alloc (Nat.le_refl _) _⟩
                · have q1 : ((k : Int) == 3) = false := by first | (rw [beq_eq_false_iff_ne]; omega) | (have := Hh2.out; rw [beq_eq_false_iff_ne]; omega) | (have := Hh1.out; rw [beq_eq_false_iff_ne]; omega)
                  have q2 : ((k : Int) != 3) = true := by first | (rw [bne_iff_ne]; omega) | (have := Hh2.out; rw [bne_iff_ne]; omega) | (have := Hh1.out; rw [bne_iff_ne]; omega)
                  have Hh3 := hid h3
                  clear h3
                  by_cases hpol : pol = true
                  · have p1 := hpol
                    have Hhpol := hid hpol
                    clear hpol
                    have HB := hid (show bareR ⟨k, r, lv, A, B, imp, pol, ln, co, er⟩ = false from by unfold bareR; simp [Hh2.out, Hhr.out, Hh1.out, Hhlv.out, HnA.out, HnB.out, Hhimp.out, Hh3.out, Hhpol.out])
                    go_enter Tryd.func31, Tryd.ntmps31
                    go_wp2
                    go_ret
                    exact ⟨ret_b (by rw [HB.out]), (Below.refl _ _).alloc (Nat.le_refl _) _⟩
                  · have p1 : pol = false := by simpa using hpol
                    replace hpol := p1
                    have Hhpol := hid hpol
                    clear hpol
                    by_cases hln : ln = 0
                    · have z1 : (ln == 0) = true := by rw [beq_iff_eq]; omega
                      have z2 : (ln != 0) = false := by rw [bne_eq_false_iff_eq]; omega
                      have Hhln := hid hln
                      clear hln
                      by_cases hco : co = 0
                      · have y1 : (co == 0) = true := by rw [beq_iff_eq]; omega
                        have y2 : (co != 0) = false := by rw [bne_eq_false_iff_eq]; omega
                        have Hhco := hid hco
                        clear hco
                        by_cases her : er = 0
                        · have x1 : (er == 0) = true := by rw [beq_iff_eq]; omega
                          have x2 : (er != 0) = false := by rw [bne_eq_false_iff_eq]; omega
                          have Hher := hid her
                          clear her
                          have HB := hid (show bareR ⟨k, r, lv, A, B, imp, pol, ln, co, er⟩ = true from by unfold bareR; simp [Hh2.out, Hhr.out, Hh1.out, Hhlv.out, HnA.out, HnB.out, Hhimp.out, Hh3.out, Hhpol.out, Hhln.out, Hhco.out, Hher.out])
                          go_enter Tryd.func31, Tryd.ntmps31
                          go_wp2
                          go_ret
                          exact ⟨ret_b (by rw [HB.out]), (Below.refl _ _).alloc (Nat.le_refl _) _⟩
                        · have x1 : (er == 0) = false := by first | (rw [beq_eq_false_iff_ne]; omega) | (have := Hh2.out; rw [beq_eq_false_iff_ne]; omega) | (have := Hh1.out; rw [beq_eq_false_iff_ne]; omega)
                          have x2 : (er != 0) = true := by first | (rw [bne_iff_ne]; omega) | (have := Hh2.out; rw [bne_iff_ne]; omega) | (have := Hh1.out; rw [bne_iff_ne]; omega)
                          have Hher := hid her
                          clear her
                          have HB := hid (show bareR ⟨k, r, lv, A, B, imp, pol, ln, co, er⟩ = false from by unfold bareR; simp [Hh2.out, Hhr.out, Hh1.out, Hhlv.out, HnA.out, HnB.out, Hhimp.out, Hh3.out, Hhpol.out, Hhln.out, Hhco.out, Hher.out])
                          go_enter Tryd.func31, Tryd.ntmps31
                          go_wp2
                          go_ret
                          exact ⟨ret_b (by rw [HB.out]), (Below.refl _ _).alloc (Nat.le_refl _) _⟩
                      · have y1 : (co == 0) = false := by first | (rw [beq_eq_false_iff_ne]; omega) | (have := Hh2.out; rw [beq_eq_false_iff_ne]; omega) | (have := Hh1.out; rw [beq_eq_false_iff_ne]; omega)
                        have y2 : (co != 0) = true := by first | (rw [bne_iff_ne]; omega) | (have := Hh2.out; rw [bne_iff_ne]; omega) | (have := Hh1.out; rw [bne_iff_ne]; omega)
                        have Hhco := hid hco
                        clear hco
                        have HB := hid (show bareR ⟨k, r, lv, A, B, imp, pol, ln, co, er⟩ = false from by unfold bareR; simp [Hh2.out, Hhr.out, Hh1.out, Hhlv.out, HnA.out, HnB.out, Hhimp.out, Hh3.out, Hhpol.out, Hhln.out, Hhco.out])
                        go_enter Tryd.func31, Tryd.ntmps31
                        go_wp2
                        go_ret
                        exact ⟨ret_b (by rw [HB.out]), (Below.refl _ _).alloc (Nat.le_refl _) _⟩
                    · have z1 : (ln == 0) = false := by first | (rw [beq_eq_false_iff_ne]; omega) | (have := Hh2.out; rw [beq_eq_false_iff_ne]; omega) | (have := Hh1.out; rw [beq_eq_false_iff_ne]; omega)
                      have z2 : (ln != 0) = true := by first | (rw [bne_iff_ne]; omega) | (have := Hh2.out; rw [bne_iff_ne]; omega) | (have := Hh1.out; rw [bne_iff_ne]; omega)
                      have Hhln := hid hln
                      clear hln
                      have HB := hid (show bareR ⟨k, r, lv, A, B, imp, pol, ln, co, er⟩ = false from by unfold bareR; simp [Hh2.out, Hhr.out, Hh1.out, Hhlv.out, HnA.out, HnB.out, Hhimp.out, Hh3.out, Hhpol.out, Hhln.out])
                      go_enter Tryd.func31, Tryd.ntmps31
                      go_wp2
                      go_ret
                      exact ⟨ret_b (by rw [HB.out]), (Below.refl _ _).alloc (Nat.le_refl _) _⟩
        · have v1 : (lv == 0) = false := by first | (rw [beq_eq_false_iff_ne]; omega) | (have := Hh2.out; rw [beq_eq_false_iff_ne]; omega) | (have := Hh1.out; rw [beq_eq_false_iff_ne]; omega)
          have v2 : (lv != 0) = true := by first | (rw [bne_iff_ne]; omega) | (have := Hh2.out; rw [bne_iff_ne]; omega) | (have := Hh1.out; rw [bne_iff_ne]; omega)
          have Hhlv := hid hlv
          clear hlv
          have HB := hid (show bareR ⟨k, r, lv, A, B, imp, pol, ln, co, er⟩ = false from by unfold bareR; simp [Hh2.out, Hhr.out, Hh1.out, Hhlv.out])
          go_enter Tryd.func31, Tryd.ntmps31
          go_wp2
          go_ret
          exact ⟨ret_b (by rw [HB.out]), (Below.refl _ _).alloc (Nat.le_refl _) _⟩
    · have s1 : ((r : Int) == 0) = false := by first | (rw [beq_eq_false_iff_ne]; omega) | (have := Hh2.out; rw [beq_eq_false_iff_ne]; omega) | (have := Hh1.out; rw [beq_eq_false_iff_ne]; omega)
      have s2 : ((r : Int) != 0) = true := by first | (rw [bne_iff_ne]; omega) | (have := Hh2.out; rw [bne_iff_ne]; omega) | (have := Hh1.out; rw [bne_iff_ne]; omega)
      have Hhr := hid hr
      clear hr
      have HB := hid (show bareR ⟨k, r, lv, A, B, imp, pol, ln, co, er⟩ = false from by unfold bareR; simp [Hh2.out, Hhr.out])
      go_enter Tryd.func31, Tryd.ntmps31
      go_wp2
      go_ret
      exact ⟨ret_b (by rw [HB.out]), (Below.refl _ _).alloc (Nat.le_refl _) _⟩

end Go.Proofs.YtehjfmbnebeioaaDoor
