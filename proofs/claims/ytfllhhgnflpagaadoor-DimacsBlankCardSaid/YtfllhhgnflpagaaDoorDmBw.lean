/-
  DimacsBlank: the walk.
-/
import Derived.Test.YtfllhhgnflpagaaDoorDmVw
import Derived.Test.YtfllhhgnflpagaaDoorDmBl
import Derived.Test.YtfllhhgnflpagaaDoorOpB
namespace Go.Proofs.YtfllhhgnflpagaaDoor
set_option linter.unusedSimpArgs false
set_option linter.unusedVariables false
open Go.RowKit Go.Shelf
attribute [local go_sem] Oper.semAt_some
theorem sep_cell (w : World) (j : Nat) (hj : j < 7) : (w.alloc (.cells #[.string ⟨#[32]⟩, .string ⟨#[9]⟩, .string ⟨#[32, 32]⟩, .string ⟨#[10]⟩, .string ⟨#[32, 10, 9]⟩, .string ⟨#[10, 99, 10]⟩, .string ⟨#[10, 99, 32, 49, 32, 48, 32, 112, 32, 99, 110, 102, 10, 10]⟩] 9)).cell? ⟨w.heap.size, j, none⟩ = some (.string ⟨(seps.getD j []).toArray⟩) := by
  rw [cell_al, if_pos rfl]
  match j, hj with
  | 0, _ => rfl
  | 1, _ => rfl
  | 2, _ => rfl
  | 3, _ => rfl
  | 4, _ => rfl
  | 5, _ => rfl
  | 6, _ => rfl
theorem pre_cell (w : World) (j : Nat) (hj : j < 4) : (w.alloc (.cells #[.string ⟨#[]⟩, .string ⟨#[99, 10]⟩, .string ⟨#[10, 10]⟩, .string ⟨#[32, 10, 99, 32, 53, 32, 53, 32, 53, 10]⟩] 9)).cell? ⟨w.heap.size, j, none⟩ = some (.string ⟨(pres.getD j []).toArray⟩) := by
  rw [cell_al, if_pos rfl]
  match j, hj with
  | 0, _ => rfl
  | 1, _ => rfl
  | 2, _ => rfl
  | 3, _ => rfl
set_option maxRecDepth 100000 in
set_option maxHeartbeats 1000000 in
theorem odd_any (k : Nat) (hk : k ≤ 255) (w : World) : Calls Tryd.prog 20 #[.int .u8 (k : Int)] w fun e w' => e = .returned (.string ⟨(oddB k).toArray⟩) ∧ Below w.heap.size w w' := by
  obtain ⟨j, hj⟩ : ∃ j, k % 7 = j := ⟨_, rfl⟩
  have hj7 : j < 7 := by omega
  have hkj : (k : Int) % 7 = (j : Int) := by omega
  have HO := hid (show oddB k = seps.getD j [] from by unfold oddB; rw [hj])
  have hcell := sep_cell w j hj7
  have hb : Below w.heap.size w (w.alloc (.cells #[.string ⟨#[32]⟩, .string ⟨#[9]⟩, .string ⟨#[32, 32]⟩, .string ⟨#[10]⟩, .string ⟨#[32, 10, 9]⟩, .string ⟨#[10, 99, 10]⟩, .string ⟨#[10, 99, 32, 49, 32, 48, 32, 112, 32, 99, 110, 102, 10, 10]⟩] 9)) := (Below.refl _ _).alloc (Nat.le_refl _) _
  have HB := hid hb
  generalize seps.getD j [] = t at HO hcell
  clear hj hb
  go_enter Tryd.func20, Tryd.ntmps20
  go_wp2_with fail
  go_ret
  exact ⟨by rw [HO.out]; rfl, HB.out⟩
theorem odd_is {k : Nat} {t : Bs} (h : oddB k = t) (hk : k ≤ 255) (w : World) : Calls Tryd.prog 20 #[.int .u8 (k : Int)] w fun e w' => e = .returned (.string ⟨t.toArray⟩) ∧ Below w.heap.size w w' := by
  rw [← h]; exact odd_any k hk w
theorem fit_yes2 {n : Int} {l : List (List Int)} (hn : 0 ≤ n ∧ n ≤ 255) (h : fitOk l = true) : (textM (fitN n) (fitL (fitN n) l)).length ≤ 2500 := fit_text2 (by unfold fitN; omega) h
theorem blF_at (bs : Bs) (sb : ByteArray) (i : Nat) (h : i < sb.size) (hd : Bool) (a : Nat) (out : Bs) : blF bs (sb.data.toList.drop i) hd a out = if hd then (if sb[i] = 10 then blF bs (sb.data.toList.drop (i + 1)) false a (out ++ [10]) else blF bs (sb.data.toList.drop (i + 1)) true a (out ++ [sb[i]]))
    else if sb[i] = 32 ∨ sb[i] = 10 then blF bs (sb.data.toList.drop (i + 1)) false (a + 1) (out ++ spB bs a) else blF bs (sb.data.toList.drop (i + 1)) false a (out ++ [sb[i]]) := by
  rw [drop_byte sb i h]; rfl
theorem fmt_sb {sb : ByteArray} {n : Int} {cls : List (List Int)} {a : Bs} {b : Int} (hs : (⟨a.toArray⟩ : ByteArray) = sb) (h : formatM n cls = (a, b)) {v : Value} (w : World) (hv : LL (· < w.heap.size) w v cls) (hb : LBnd cls) (hn : -9223372036854775808 ≤ n ∧ n ≤ 9223372036854775807) (hE : Env w) :
    Calls Tryd.prog 13 #[.agg #[.int .i64 n, v]] w fun e w' => e = .returned (.tuple #[.string sb, .int .i64 b]) ∧ Below w.heap.size w w' := by
  rw [← hs]; exact fmt_is h w hv hb hn hE
theorem cat2 (t s : Bs) : (⟨t.toArray⟩ : ByteArray) ++ ⟨s.toArray⟩ = ⟨(t ++ s).toArray⟩ := by rw [ByteArray.mk_append_mk]
set_option maxRecDepth 100000 in
set_option maxHeartbeats 4000000 in
theorem blank_walk (n : Int) (v : Value) (l : List (List Int)) (bs : Bs) (u : Value) (w : World) (hn : 0 ≤ n ∧ n ≤ 255) (hv : L8 (· < w.heap.size) w v l) (hb : ∀ x ∈ l, ∀ a ∈ x, -128 ≤ a ∧ a ≤ 127) (hu : Bys (· < w.heap.size) w u bs) (hE : Env w) :
    Calls Tryd.prog 8 #[.int .u8 n, v, u] w fun e w' => e = .returned (.bool true) ∧ Below w.heap.size w w' := by
  obtain ⟨ok, hok⟩ : ∃ b, fitOk l = b := ⟨_, rfl⟩
  have HE := hid hE; have HV := hid hv; have HB := hid hb; have HN := hid hn
  clear hE hv hb hn
  cases ok with
  | false =>
    have HAOK := hid hok
    clear hok hu
    go_enter Tryd.func8, Tryd.ntmps8
    go_wp2_with (first
      | (go_at_call 18; with_reducible refine (fit_not HAOK.out w HN.out HV.out HB.out).mono ?_; rintro e w1_ ⟨vA, rfl, hlA, hb1⟩; obtain ⟨pA, nA, kA, rfl⟩ := hlA.slc; have HBel1 := hid (show Below w.heap.size w w1_ from hb1); (obtain ⟨w1b_, hwA⟩ : ∃ x, w1_.alloc (.cells #[.int .i64 (0), .slice pA nA kA] 24) = x := ⟨_, rfl⟩); have hbxA : Below w1_.heap.size w1_ w1b_ := (by rw [← hwA]; exact (Below.refl _ _).alloc (Nat.le_refl _) _); have HBel2 := hid (show Below w.heap.size w w1b_ from HBel1.out.trans (hbxA.mono HBel1.out.size)); have A_2 := hid (show Bx w1_.heap.size (0) (.slice pA nA kA) w1b_ from (by rw [← hwA]; exact Bx.new _ _ _)); have Ac0_2 := A_2.out.c0; have Ac1_2 := A_2.out.c1; have LA_2 := hid (show LL (· < w1b_.heap.size) w1b_ (.slice pA nA kA) ([]) from hlA.up hbxA); have HWA := hid hwA; clear hwA hlA hbxA; clear hb1)
      | (rw [HWA.out])
      | (go_at_call 12; with_reducible refine (known_any w1b_ (HE.out.below HBel2.out)).mono ?_; rintro e w3_ ⟨rfl, hb3⟩; have HBel3 := hid (show Below w.heap.size w w3_ from HBel2.out.trans (hb3.mono HBel2.out.size)); have A_3 := hid (A_2.out.bel hb3); have Ac0_3 := A_3.out.c0; have Ac1_3 := A_3.out.c1; clear Ac0_2 Ac1_2; have LA_3 := hid (LA_2.out.bel hb3); clear hb3))
    go_ret
    exact ⟨rfl, HBel3.out⟩
  | true =>
    have HF := hid (FitF.of HN.out hok)
    have hlen2 := fit_yes2 HN.out hok
    have HOK := hid hok
    obtain ⟨N, hN⟩ : ∃ N, fitN n = N := ⟨_, rfl⟩
    rw [hN] at HF hlen2
    obtain ⟨ls, hls⟩ : ∃ ls, fitL N l = ls := ⟨_, rfl⟩
    rw [hls] at HF hlen2
    have HTX := hid (show ∀ p, p ∈ pres → ¬ 65536 < (p ++ blF bs (textM N ls) true 0 []).length → parseM (p ++ blF bs (textM N ls) true 0 []) = ((N, ls), 0, 0) from fun p hp h => parse_blank HF.out.fok bs p hp h)
    generalize textM N ls = txt at HF hlen2 HTX
    obtain ⟨sb, hsb⟩ : ∃ sb : ByteArray, (⟨txt.toArray⟩ : ByteArray) = sb := ⟨_, rfl⟩
    have htx : txt = sb.data.toList := by rw [← hsb]
    have hsz : sb.size ≤ 2500 := by rw [← hsb]; simpa [ByteArray.size] using hlen2
    have hres := blF_len bs txt true 0 []
    have HST := hid (show blF bs (sb.data.toList.drop 0) true 0 [] = blF bs txt true 0 [] from by rw [List.drop_zero, ← htx])
    obtain ⟨RES, hR⟩ : ∃ x, blF bs txt true 0 [] = x := ⟨_, rfl⟩
    rw [hR] at HST HTX hres
    have hresb : RES.length ≤ 35000 := by simp at hres; omega
    have HN2 := hid hN; have HL2 := hid hls; have HSB := hid hsb
    obtain ⟨pu, ku, rfl, hu1, hu2, hu3, hur⟩ := hu.op
    obtain ⟨LB, hLB⟩ : ∃ n, bs.length = n := ⟨_, rfl⟩
    rw [hLB]
    rw [hLB] at hu3
    have HLB := hid hLB
    have HUR := hid hur
    clear hLB hok hN hls htx hres hR hlen2 hu hur hsb hu1 hu2
    go_enter Tryd.func8, Tryd.ntmps8
    go_wp2_with (first
      | (go_at_call 18; with_reducible refine (fit_yes HOK.out HN2.out HL2.out w HN.out HV.out HB.out).mono ?_; rintro e w1_ ⟨vA, rfl, hlA, hb1⟩; obtain ⟨pA, nA, kA, rfl⟩ := hlA.slc; have HBel1 := hid (show Below w.heap.size w w1_ from hb1); (obtain ⟨w1b_, hwA⟩ : ∃ x, w1_.alloc (.cells #[.int .i64 (N), .slice pA nA kA] 24) = x := ⟨_, rfl⟩); have hbxA : Below w1_.heap.size w1_ w1b_ := (by rw [← hwA]; exact (Below.refl _ _).alloc (Nat.le_refl _) _); have HBel2 := hid (show Below w.heap.size w w1b_ from HBel1.out.trans (hbxA.mono HBel1.out.size)); have A_2 := hid (show Bx w1_.heap.size (N) (.slice pA nA kA) w1b_ from (by rw [← hwA]; exact Bx.new _ _ _)); have Ac0_2 := A_2.out.c0; have Ac1_2 := A_2.out.c1; have LA_2 := hid (show LL (· < w1b_.heap.size) w1b_ (.slice pA nA kA) (ls) from hlA.up hbxA); have HWA := hid hwA; clear hwA hlA hbxA; clear hb1)
      | (rw [HWA.out])
      | (go_at_call 13; with_reducible refine (fmt_sb HSB.out HF.out.fmt w1b_ LA_2.out HF.out.bnd HF.out.n0 (HE.out.below HBel2.out)).mono ?_; rintro e w3_ ⟨rfl, hb3⟩; have HBel3 := hid (show Below w.heap.size w w3_ from HBel2.out.trans (hb3.mono HBel2.out.size)); have A_3 := hid (A_2.out.bel hb3); have Ac0_3 := A_3.out.c0; have Ac1_3 := A_3.out.c1; clear Ac0_2 Ac1_2; have LA_3 := hid (LA_2.out.bel hb3); clear hb3))
    have HBW0 := hid (show Below w3_.heap.size w3_ w3_ from Below.refl _ _)
    clear Ac0_3 Ac1_3
    go_loopw [11, 12, 13, 14] (fun vo vh va iv wr => ∃ (i a : Nat) (hd : Bool) (out : Bs), i ≤ sb.size ∧ iv = .int .i64 (i : Int) ∧ vo = .string ⟨out.toArray⟩ ∧ vh = .bool hd ∧ va = .int .i64 (a : Int) ∧ Below w3_.heap.size w3_ wr ∧ out.length ≤ 14 * i ∧ a ≤ i ∧ blF bs (sb.data.toList.drop i) hd a out = RES) (fun _ _ _ iv _ => sb.size - (intOf iv).toNat)
    case atStart => exact ⟨0, 0, true, [], Nat.zero_le _, rfl, rfl, rfl, rfl, HBW0.out, by simp, Nat.le_refl _, HST.out⟩
    case round =>
      obtain ⟨i, a, hd, out, hi, rfl, rfl, rfl, rfl, hbw, hol, hai, hbl⟩ := hrel
      obtain ⟨wo, rfl⟩ : ∃ wo : World, wo = wr := ⟨_, rfl⟩
      have HBW := hid hbw; have HOL := hid hol
      clear hbw
      by_cases hlt : i < sb.size
      · have g1 : decide ((i : Int) < (sb.size : Int)) = true := by simp; omega
        rw [blF_at bs sb i hlt] at hbl
        obtain ⟨u, hu⟩ : ∃ u : Nat, sb[i].toNat = u := ⟨_, rfl⟩
        have hext := ext1 sb i hlt
        have hy : ¬ 9223372036854775807 < out.length + 1 := by omega
        cases hd with
        | true =>
          simp only [if_true] at hbl
          by_cases h10 : u = 10
          · rw [if_pos (UInt8.toNat_inj.1 (by rw [hu, h10]; rfl))] at hbl
            have f1 : ((u : Int) != 10) = false := by rw [h10]; rfl
            have HX := hid hbl
            have hcat := cat1 out 10
            clear hbl h10 hol
            go_wp2_with fail
            go_roundw
            case rel => exact ⟨i + 1, a, false, out ++ [10], by omega, by go_num, (by first | rfl | (rw [hcat])), rfl, rfl, HBW.out, (by have := HOL.out; simp only [List.length_append, List.length_cons, List.length_nil]; omega), by omega, HX.out⟩
            case measure => (simp [intOf] <;> omega)
          · rw [if_neg (fun e => h10 (by rw [← hu, e]; rfl))] at hbl
            have f1 : ((u : Int) != 10) = true := by rw [bne_iff_ne]; omega
            have HX := hid hbl
            have hcat := cat1 out sb[i]
            clear hbl h10 hol
            go_wp2_with fail
            go_roundw
            case rel => exact ⟨i + 1, a, true, out ++ [sb[i]], by omega, by go_num, (by first | rfl | (rw [hcat])), rfl, rfl, HBW.out, (by have := HOL.out; simp only [List.length_append, List.length_cons, List.length_nil]; omega), by omega, HX.out⟩
            case measure => (simp [intOf] <;> omega)
        | false =>
          simp only [Bool.false_eq_true, if_false] at hbl
          by_cases hs : u = 32 ∨ u = 10
          · rw [if_pos (hs.elim (fun h => .inl (UInt8.toNat_inj.1 (by rw [hu, h]; rfl))) (fun h => .inr (UInt8.toNat_inj.1 (by rw [hu, h]; rfl))))] at hbl
            have f3 : ((u : Int) != 32) = true → ((u : Int) != 10) = false := by rcases hs with rfl | rfl <;> decide
            have HX := hid hbl
            obtain ⟨sp, hsp⟩ : ∃ x, spB bs a = x := ⟨_, rfl⟩
            have hspl := seps_len (spB_mem bs a)
            rw [hsp] at HX hspl
            have hcat := cat2 out sp
            have hy2 : ¬ 9223372036854775807 < out.length + sp.length := by omega
            by_cases hbs : bs = []
            · subst hbs
              obtain rfl : LB = 0 := HLB.out.symm
              have HOD := hid (fun W => odd_is (k := 0) (t := sp) (by rw [← hsp]; rfl) (by omega) W)
              clear hbl hsp hol hy
              rcases hs with rfl | rfl
              · have f1 : ((32 : Int) != 32) = false := by decide
                go_wp2_with (go_at_call 20; refine (HOD.out _).mono ?_; rintro e w5 ⟨rfl, hb5⟩; have HB5 := hid (HBW.out.trans (hb5.mono HBW.out.size)); clear hb5)
                go_roundw
                case rel => exact ⟨i + 1, a + 1, false, out ++ sp, by omega, by go_num, (by first | rfl | (rw [hcat])), rfl, by go_num, HB5.out, (by have := HOL.out; simp only [List.length_append]; omega), by omega, HX.out⟩
                case measure => (simp [intOf] <;> omega)
              · have f1 : ((10 : Int) != 32) = true := by decide
                go_wp2_with (go_at_call 20; refine (HOD.out _).mono ?_; rintro e w5 ⟨rfl, hb5⟩; have HB5 := hid (HBW.out.trans (hb5.mono HBW.out.size)); clear hb5)
                go_roundw
                case rel => exact ⟨i + 1, a + 1, false, out ++ sp, by omega, by go_num, (by first | rfl | (rw [hcat])), rfl, by go_num, HB5.out, (by have := HOL.out; simp only [List.length_append]; omega), by omega, HX.out⟩
                case measure => (simp [intOf] <;> omega)
            · have hbp : 0 < bs.length := List.length_pos_iff.2 hbs
              have hLB := HLB.out
              obtain ⟨q, hq⟩ : ∃ q, a % bs.length = q := ⟨_, rfl⟩
              have hq1 : q < bs.length := by rw [← hq]; exact Nat.mod_lt _ hbp
              have HOD := hid (fun W => odd_is (k := bs[q].toNat) (t := sp) (by rw [← hsp]; unfold spB; rw [if_neg hbs, hq, List.getD_eq_getElem?_getD, List.getElem?_eq_getElem hq1]; rfl) (by have := bs[q].toNat_lt; omega) W)
              obtain ⟨bb, ob, rfl, hRb, hcb⟩ := HUR.out.at8 q hq1
              have hcq := (HBW.out.cell (p := ⟨bb, ob + q, none⟩) (Nat.lt_of_lt_of_le hRb HBel3.out.size)).trans ((HBel3.out.cell (p := ⟨bb, ob + q, none⟩) hRb).trans (hcb q hq1))
              obtain ⟨kq, hkq⟩ : ∃ k : Nat, bs[q].toNat = k := ⟨_, rfl⟩
              rw [hkq] at HOD hcq
              rw [hLB] at hq hq1 hbp
              have hqi : (a : Int) % (LB : Int) = (q : Int) := by rw [← hq]; rfl
              have hp0 : decide (0 < (LB : Int)) = true := by simp; omega
              have hp1 : ¬ LB = 0 := by omega
              clear hbl hsp hol hy hcb hkq hbs hq hRb hLB
              rcases hs with rfl | rfl
              · have f1 : ((32 : Int) != 32) = false := by decide
                go_wp2_with (go_at_call 20; refine (HOD.out _).mono ?_; rintro e w5 ⟨rfl, hb5⟩; have HB5 := hid (HBW.out.trans (hb5.mono HBW.out.size)); clear hb5)
                go_roundw
                case rel => exact ⟨i + 1, a + 1, false, out ++ sp, by omega, by go_num, (by first | rfl | (rw [hcat])), rfl, by go_num, HB5.out, (by have := HOL.out; simp only [List.length_append]; omega), by omega, HX.out⟩
                case measure => (simp [intOf] <;> omega)
              · have f1 : ((10 : Int) != 32) = true := by decide
                go_wp2_with (go_at_call 20; refine (HOD.out _).mono ?_; rintro e w5 ⟨rfl, hb5⟩; have HB5 := hid (HBW.out.trans (hb5.mono HBW.out.size)); clear hb5)
                go_roundw
                case rel => exact ⟨i + 1, a + 1, false, out ++ sp, by omega, by go_num, (by first | rfl | (rw [hcat])), rfl, by go_num, HB5.out, (by have := HOL.out; simp only [List.length_append]; omega), by omega, HX.out⟩
                case measure => (simp [intOf] <;> omega)
          · rw [if_neg (fun h => hs (h.elim (fun e => .inl (by rw [← hu, e]; rfl)) (fun e => .inr (by rw [← hu, e]; rfl))))] at hbl
            have f1 : ((u : Int) != 32) = true := by rw [bne_iff_ne]; omega
            have f2 : ((u : Int) != 10) = true := by rw [bne_iff_ne]; omega
            have HX := hid hbl
            have hcat := cat1 out sb[i]
            clear hbl hs hol
            go_wp2_with fail
            go_roundw
            case rel => exact ⟨i + 1, a, false, out ++ [sb[i]], by omega, by go_num, (by first | rfl | (rw [hcat])), rfl, rfl, HBW.out, (by have := HOL.out; simp only [List.length_append, List.length_cons, List.length_nil]; omega), by omega, HX.out⟩
            case measure => (simp [intOf] <;> omega)
      · obtain rfl : i = sb.size := by omega
        have g1 : decide (((sb.size : Nat) : Int) < (sb.size : Int)) = false := by simp
        rw [drop_all] at hbl
        have hout : out = RES := hbl
        subst hout
        clear hbl hlt hol
        have hr0 : decide (65536 < (out.length : Int)) = false := by simp; omega
        have HBel90 := hid (show Below w.heap.size w wo from HBel3.out.trans (HBW.out.mono HBel3.out.size))
        have A_90 := hid (A_3.out.bel HBW.out); have LA_90 := hid (LA_3.out.bel HBW.out)
        by_cases hbs : bs = []
        · subst hbs
          obtain rfl : LB = 0 := HLB.out.symm
          have HP := hid (HTX.out [] (by simp [pres]) (by simp; omega))
          rw [List.nil_append] at HP
          have Ac0_90 := A_90.out.c0; have Ac1_90 := A_90.out.c1
          go_wp2_with (first
            | (go_at_call 15; with_reducible refine (prs_is HP.out wo (HE.out.below HBel90.out)).mono ?_; rintro e w91_ ⟨vQ, rfl, hlQ, hb91⟩; obtain ⟨pQ, nQ, kQ, rfl⟩ := hlQ.slc; have HBel91 := hid (show Below w.heap.size w w91_ from HBel90.out.trans (hb91.mono HBel90.out.size)); have A_91 := hid (A_90.out.bel hb91); have Ac0_91 := A_91.out.c0; have Ac1_91 := A_91.out.c1; clear Ac0_90 Ac1_90; have LA_91 := hid (LA_90.out.bel hb91); (obtain ⟨w91b_, hwQ⟩ : ∃ x, w91_.alloc (.cells #[.int .i64 (N), .slice pQ nQ kQ] 24) = x := ⟨_, rfl⟩); have hbxQ : Below w91_.heap.size w91_ w91b_ := (by rw [← hwQ]; exact (Below.refl _ _).alloc (Nat.le_refl _) _); have HBel92 := hid (show Below w.heap.size w w91b_ from HBel91.out.trans (hbxQ.mono HBel91.out.size)); have A_92 := hid (A_91.out.bel hbxQ); have Ac0_92 := A_92.out.c0; have Ac1_92 := A_92.out.c1; clear Ac0_91 Ac1_91; have LA_92 := hid (LA_91.out.bel hbxQ); have Q_92 := hid (show Bx w91_.heap.size (N) (.slice pQ nQ kQ) w91b_ from (by rw [← hwQ]; exact Bx.new _ _ _)); have Qc0_92 := Q_92.out.c0; have Qc1_92 := Q_92.out.c1; have LQ_92 := hid (show LL (· < w91b_.heap.size) w91b_ (.slice pQ nQ kQ) (ls) from hlQ.up hbxQ); have HWQ := hid hwQ; clear hwQ hlQ hbxQ; clear hb91)
            | (rw [HWQ.out])
            | (go_at_call 17; with_reducible refine (eqf_is (decide_eq_true ⟨rfl, rfl⟩) LA_92.out LQ_92.out).mono ?_; rintro e w93_ ⟨rfl, hb93⟩; have HBel93 := hid (show Below w.heap.size w w93_ from HBel92.out.trans (hb93.mono HBel92.out.size)); have A_93 := hid (A_92.out.bel hb93); have Ac0_93 := A_93.out.c0; have Ac1_93 := A_93.out.c1; clear Ac0_92 Ac1_92; have Q_93 := hid (Q_92.out.bel hb93); have Qc0_93 := Q_93.out.c0; have Qc1_93 := Q_93.out.c1; clear Qc0_92 Qc1_92; have LA_93 := hid (LA_92.out.bel hb93); have LQ_93 := hid (LQ_92.out.bel hb93); clear hb93)
            | (go_at_call 12; with_reducible refine (known_any w93_ (HE.out.below HBel93.out)).mono ?_; rintro e w94_ ⟨rfl, hb94⟩; have HBel94 := hid (show Below w.heap.size w w94_ from HBel93.out.trans (hb94.mono HBel93.out.size)); have A_94 := hid (A_93.out.bel hb94); have Ac0_94 := A_94.out.c0; have Ac1_94 := A_94.out.c1; clear Ac0_93 Ac1_93; have Q_94 := hid (Q_93.out.bel hb94); have Qc0_94 := Q_94.out.c0; have Qc1_94 := Q_94.out.c1; clear Qc0_93 Qc1_93; have LA_94 := hid (LA_93.out.bel hb94); have LQ_94 := hid (LQ_93.out.bel hb94); clear hb94))
          go_ret
          exact ⟨rfl, HBel94.out⟩
        · have hbp : 0 < bs.length := List.length_pos_iff.2 hbs
          obtain ⟨bb, ob, rfl, hRb, hcb⟩ := HUR.out.at8 0 hbp
          obtain ⟨w9, hw9⟩ : ∃ x, wo.alloc (.cells #[.string ⟨#[]⟩, .string ⟨#[99, 10]⟩, .string ⟨#[10, 10]⟩, .string ⟨#[32, 10, 99, 32, 53, 32, 53, 32, 53, 10]⟩] 9) = x := ⟨_, rfl⟩
          have hb9 : Below wo.heap.size wo w9 := by rw [← hw9]; exact (Below.refl _ _).alloc (Nat.le_refl _) _
          have hcq : w9.cell? ⟨bb, ob, none⟩ = some (.int .u8 (bs[0].toNat : Int)) := (hb9.cell (p := ⟨bb, ob, none⟩) (Nat.lt_of_lt_of_le hRb HBel90.out.size)).trans ((HBel90.out.cell (p := ⟨bb, ob, none⟩) hRb).trans (hcb 0 hbp))
          obtain ⟨j, hj⟩ : ∃ j, bs[0].toNat % 4 = j := ⟨_, rfl⟩
          have hj4 : j < 4 := by omega
          have hpc := pre_cell wo j hj4
          rw [hw9] at hpc
          have hpm : pres.getD j [] ∈ pres := by
            rw [List.getD_eq_getElem?_getD, List.getElem?_eq_getElem (show j < pres.length from hj4)]
            exact List.getElem_mem _
          have hpl := pre_len hpm
          obtain ⟨pt, hpt⟩ : ∃ x, pres.getD j [] = x := ⟨_, rfl⟩
          rw [hpt] at hpc hpm hpl
          have HP := hid (HTX.out pt hpm (by rw [List.length_append]; omega))
          obtain ⟨k0, hk0⟩ : ∃ k : Nat, bs[0].toNat = k := ⟨_, rfl⟩
          rw [hk0] at hcq hj
          have hk255 : k0 ≤ 255 := by rw [← hk0]; have := bs[0].toNat_lt; omega
          have hkj : (k0 : Int) % 4 = (j : Int) := by omega
          have hLB := HLB.out
          rw [hLB] at hbp
          have hp0 : decide (0 < (LB : Int)) = true := by simp; omega
          have hcat := cat2 pt out
          have hy2 : ¬ 9223372036854775807 < pt.length + out.length := by omega
          have HBel91 := hid (show Below w.heap.size w w9 from HBel90.out.trans (hb9.mono HBel90.out.size))
          have A_91 := hid (A_90.out.bel hb9); have LA_91 := hid (LA_90.out.bel hb9)
          have HW9 := hid hw9
          have Ac0_91 := A_91.out.c0; have Ac1_91 := A_91.out.c1
          clear hRb hcb hb9 hj hpm hpl hpt hk0 hLB hw9 hbs
          go_wp2_with (first
            | (rw [HW9.out])
            | (go_at_call 15; with_reducible refine (prs_is HP.out w9 (HE.out.below HBel91.out)).mono ?_; rintro e w92_ ⟨vQ, rfl, hlQ, hb92⟩; obtain ⟨pQ, nQ, kQ, rfl⟩ := hlQ.slc; have HBel92 := hid (show Below w.heap.size w w92_ from HBel91.out.trans (hb92.mono HBel91.out.size)); have A_92 := hid (A_91.out.bel hb92); have Ac0_92 := A_92.out.c0; have Ac1_92 := A_92.out.c1; clear Ac0_91 Ac1_91; have LA_92 := hid (LA_91.out.bel hb92); (obtain ⟨w92b_, hwQ⟩ : ∃ x, w92_.alloc (.cells #[.int .i64 (N), .slice pQ nQ kQ] 24) = x := ⟨_, rfl⟩); have hbxQ : Below w92_.heap.size w92_ w92b_ := (by rw [← hwQ]; exact (Below.refl _ _).alloc (Nat.le_refl _) _); have HBel93 := hid (show Below w.heap.size w w92b_ from HBel92.out.trans (hbxQ.mono HBel92.out.size)); have A_93 := hid (A_92.out.bel hbxQ); have Ac0_93 := A_93.out.c0; have Ac1_93 := A_93.out.c1; clear Ac0_92 Ac1_92; have LA_93 := hid (LA_92.out.bel hbxQ); have Q_93 := hid (show Bx w92_.heap.size (N) (.slice pQ nQ kQ) w92b_ from (by rw [← hwQ]; exact Bx.new _ _ _)); have Qc0_93 := Q_93.out.c0; have Qc1_93 := Q_93.out.c1; have LQ_93 := hid (show LL (· < w92b_.heap.size) w92b_ (.slice pQ nQ kQ) (ls) from hlQ.up hbxQ); have HWQ := hid hwQ; clear hwQ hlQ hbxQ; clear hb92)
            | (rw [HWQ.out])
            | (go_at_call 17; with_reducible refine (eqf_is (decide_eq_true ⟨rfl, rfl⟩) LA_93.out LQ_93.out).mono ?_; rintro e w94_ ⟨rfl, hb94⟩; have HBel94 := hid (show Below w.heap.size w w94_ from HBel93.out.trans (hb94.mono HBel93.out.size)); have A_94 := hid (A_93.out.bel hb94); have Ac0_94 := A_94.out.c0; have Ac1_94 := A_94.out.c1; clear Ac0_93 Ac1_93; have Q_94 := hid (Q_93.out.bel hb94); have Qc0_94 := Q_94.out.c0; have Qc1_94 := Q_94.out.c1; clear Qc0_93 Qc1_93; have LA_94 := hid (LA_93.out.bel hb94); have LQ_94 := hid (LQ_93.out.bel hb94); clear hb94)
            | (go_at_call 12; with_reducible refine (known_any w94_ (HE.out.below HBel94.out)).mono ?_; rintro e w95_ ⟨rfl, hb95⟩; have HBel95 := hid (show Below w.heap.size w w95_ from HBel94.out.trans (hb95.mono HBel94.out.size)); have A_95 := hid (A_94.out.bel hb95); have Ac0_95 := A_95.out.c0; have Ac1_95 := A_95.out.c1; clear Ac0_94 Ac1_94; have Q_95 := hid (Q_94.out.bel hb95); have Qc0_95 := Q_95.out.c0; have Qc1_95 := Q_95.out.c1; clear Qc0_94 Qc1_94; have LA_95 := hid (LA_94.out.bel hb95); have LQ_95 := hid (LQ_94.out.bel hb95); clear hb95))
          go_ret
          exact ⟨rfl, HBel95.out⟩

end Go.Proofs.YtfllhhgnflpagaaDoor
