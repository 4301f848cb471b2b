/-
  The walk of TokenLines: the lines of words are the reference's; results are new memory.
-/
import Derived.Test.YtgldgkaigomceaaTkS
import Derived.Test.YtgldgkaigomceaaTkWd
namespace Go.Proofs.Ytgldgkaigomceaa
set_option linter.unusedSimpArgs false
set_option linter.unusedVariables false
open Go.RowKit Go.Shelf
attribute [local go_sem] Oper.semAt_some

theorem WLL.slc {R : Nat → Prop} {w : World} {v : Value} {ws : List (List Wd)} (h : WLL R w v ws) : ∃ p c, v = .slice p ws.length c := by
  obtain ⟨xs, ⟨p, c, e, _⟩, hl, _⟩ := h
  exact ⟨p, c, by rw [e, hl]⟩

theorem WLL.le {R : Nat → Prop} {w : World} {v : Value} {ws : List (List Wd)} (h : WLL R w v ws) : ws.length ≤ 140737488355328 := by
  obtain ⟨xs, ⟨p, c, e, _, _, h, _⟩, hl, _⟩ := h
  omega

set_option maxRecDepth 100000 in
set_option maxHeartbeats 4000000 in
theorem tlines_walk (sb : ByteArray) (m : Int) (w : World) (hs : sb.size ≤ 9223372036854775807) (hm : w.cell? ⟨0, 0, none⟩ = some (.int .i64 m)) :
    Calls Try.prog 3 #[.string sb] w fun e w' => e = .returned (.bool true) ∧ Below w.heap.size w w' := by
  have h0 : 0 < w.heap.size := World.block_lt_of_cell? w _ hm
  have HM := hid hm
  clear hm
  go_enter Try.func3, Try.ntmps3
  go_wp2_with fail
  have hx : (sb.extract 0 (min (↑sb.size) 2000 : Int).toNat).size ≤ 2000 := by
    show (sb.extract 0 _).data.size ≤ 2000
    rw [ByteArray.data_extract, Array.size_extract]; omega
  generalize sb.extract 0 (min (↑sb.size) 2000 : Int).toNat = sc at *
  obtain ⟨l, rfl, hl⟩ := ba_list sc
  clear hx hl
  refine (rlines_any l w).mono ?_
  rintro e w1 hp
  unfold LinesPost at hp
  cases hlr : linesR l with
  | error q =>
    obtain ⟨L, C, c⟩ := q
    rw [hlr] at hp
    obtain ⟨hb, rfl⟩ := hp
    have HLN := hid (show ∀ (w : World), w.cell? ⟨0, 0, none⟩ = some (.int .i64 m) → Calls Try.prog 9 #[.string ⟨l.toArray⟩] w fun e w' => Below w.heap.size w w' ∧ e = .returned (.tuple #[.slice none 0 0, .agg #[.int .i64 (L : Int), .int .i64 (C : Int)], .int .i64 c]) from
      fun w hm => by have := lines_any l m w hm; unfold LinesPost at this; rw [hlr] at this; exact this)
    have HEQ := hid (show ∀ W, Calls Try.prog 10 #[.slice none 0 0, .slice none 0 0] W fun e w' => e = .returned (.bool true) ∧ ∃ n, W.drewN n = w' from
      fun W => by have := eqlines_any [] [] (.slice none 0 0) (.slice none 0 0) (fun _ => False) (fun _ => False) W WLL.nil WLL.nil; simpa using this)
    clear hlr
    generalize (L : Int) = L at *
    generalize (C : Int) = C at *
    have HB := hid hb
    have hlt := hb.size
    clear hb
    go_wp2
    go_loopw [2, 6, 7, 8, 9, 10, 11] (fun v2 v6 v7 v8 v9 v10 v11 wr => ∃ k : Nat, v2 = .bool false ∧ v6 = .int .i64 k ∧ k ≤ 2 ∧ wr.heap[w1.heap.size]? = some (.cells #[.int .i64 L, .int .i64 C] 24 (0, 0)) ∧ Below w.heap.size w wr) (fun _ v6 _ _ _ _ _ _ => 2 - (intOf v6).toNat)
    case atStart => exact ⟨0, rfl, rfl, by omega, by rw [heap_al, if_pos rfl], HB.out.alloc hlt _⟩
    case round =>
      obtain ⟨k, rfl, rfl, hk, hbox, hbel⟩ := hrel
      by_cases hlt2 : k < 2
      · have hws := hbel.size
        have hbx : w1.heap.size < wr.heap.size := (Array.getElem?_eq_some_iff.1 hbox).1
        have HBEL := hid hbel; have HBOX := hid hbox
        have HC := hid (HLN.out wr ((hbel.cell h0).trans HM.out))
        clear hbel hbox
        go_wp2_with fail
        refine HC.out.mono ?_
        rintro e w2 ⟨hb2, rfl⟩
        have hbox2 : w2.heap[w1.heap.size]? = some (.cells #[.int .i64 L, .int .i64 C] 24 (0, 0)) := (hb2.block _ hbx).trans HBOX.out
        have hw2 := hb2.size
        obtain ⟨c1, c2, f1, f2⟩ := cell_lit2 (W := w2.alloc (.cells #[.int .i64 L, .int .i64 C] 24)) (k := w1.heap.size) (v := .int .i64 L) (u := .int .i64 C) (t := 24) (by rw [heap_al, if_neg (by omega)]; exact hbox2)
        have HBOX2 := hid hbox2; have HB2 := hid (HBEL.out.trans (hb2.mono HBEL.out.size))
        clear hbox2 hb2
        go_wp2_with (go_at_call 10; with_reducible refine (HEQ.out _).mono ?_; rintro e w3 ⟨rfl, n, rfl⟩)
        go_loopw [10, 11] (fun iv jv W => iv = .int .i64 0 ∧ W = (w2.alloc (.cells #[.int .i64 L, .int .i64 C] 24)).drewN n) (fun _ _ _ => 0)
        case atStart => exact ⟨rfl, rfl⟩
        case round =>
          obtain ⟨rfl, rfl⟩ := hrel
          go_wp2
          go_roundw
          case rel => exact ⟨k + 1, rfl, by go_num, by omega, by show (w2.alloc _).heap[_]? = _; rw [heap_al, if_neg (by omega)]; exact HBOX2.out, below_drewN' (HB2.out.alloc (by omega) _) _⟩
          case measure => simp [intOf]; omega
      · obtain rfl : k = 2 := by omega
        have HAW := hid (awake_any m wr ((hbel.cell h0).trans HM.out))
        have HBEL := hid hbel
        clear hbel
        go_wp2_with fail
        refine HAW.out.mono ?_
        rintro e w5 ⟨rfl, hb5⟩
        go_wp2
        go_ret
        exact ⟨rfl, HBEL.out.trans (hb5.mono HBEL.out.size)⟩
  | ok out =>
    rw [hlr] at hp
    obtain ⟨hb, v0, rfl, hw0, _⟩ := hp
    have HLN := hid (show ∀ (w : World), w.cell? ⟨0, 0, none⟩ = some (.int .i64 m) → Calls Try.prog 9 #[.string ⟨l.toArray⟩] w fun e w' => Below w.heap.size w w' ∧ ∃ v, e = .returned (.tuple #[v, .agg #[.int .i64 0, .int .i64 0], .int .i64 0]) ∧ WLL (fun k => w.heap.size ≤ k ∧ Soft w' k) w' v out ∧ WLS w.heap.size 29 w' v out from
      fun w hm => by have := lines_any l m w hm; unfold LinesPost at this; rw [hlr] at this; exact this)
    have hw0' : WLL (fun k => k < w1.heap.size) w1 v0 out := hw0.keep fun k hk => ⟨hk.2.size, rfl⟩
    obtain ⟨p0, c0, rfl⟩ := hw0.slc
    have HB := hid hb; have HW0 := hid hw0'
    have hlt := hb.size
    clear hb hw0 hw0' hlr
    go_wp2
    go_loopw [2, 6, 7, 8, 9, 10, 11] (fun v2 v6 v7 v8 v9 v10 v11 wr => ∃ k : Nat, v2 = .bool false ∧ v6 = .int .i64 k ∧ k ≤ 2 ∧ WLL (fun k => k < w1.heap.size) wr (.slice p0 out.length c0) out ∧ wr.heap[w1.heap.size]? = some (.cells #[.int .i64 0, .int .i64 0] 24 (0, 0)) ∧ Below w.heap.size w wr) (fun _ v6 _ _ _ _ _ _ => 2 - (intOf v6).toNat)
    case atStart => exact ⟨0, rfl, rfl, by omega, HW0.out.keep fun k hk => ⟨hk, by rw [heap_al, if_neg (by omega)]⟩, by rw [heap_al, if_pos rfl], HB.out.alloc hlt _⟩
    case round =>
      obtain ⟨k, rfl, rfl, hk, hwl, hbox, hbel⟩ := hrel
      obtain ⟨wo, rfl⟩ : ∃ wo : World, wo = wr := ⟨_, rfl⟩
      by_cases hlt2 : k < 2
      · have hws := hbel.size
        have hbx : w1.heap.size < wo.heap.size := (Array.getElem?_eq_some_iff.1 hbox).1
        have HBEL := hid hbel; have HBOX := hid hbox; have HWL := hid hwl
        have HC := hid (HLN.out wo ((hbel.cell h0).trans HM.out))
        clear hbel hbox hwl
        go_wp2_with fail
        refine HC.out.mono ?_
        rintro e w2 ⟨hb2, v1, rfl, hl1, hs1⟩
        obtain ⟨p1, c1', rfl⟩ := hl1.slc
        have hbox2 : w2.heap[w1.heap.size]? = some (.cells #[.int .i64 0, .int .i64 0] 24 (0, 0)) := (hb2.block _ hbx).trans HBOX.out
        have hw2 := hb2.size
        obtain ⟨c1, c2, f1, f2⟩ := cell_lit2 (W := w2.alloc (.cells #[.int .i64 0, .int .i64 0] 24)) (k := w1.heap.size) (v := .int .i64 0) (u := .int .i64 0) (t := 24) (by rw [heap_al, if_neg (by omega)]; exact hbox2)
        have hq := eqlines_any out out _ _ (fun k => wo.heap.size ≤ k ∧ Soft w2 k) (fun k => k < w1.heap.size) (w2.alloc (.cells #[.int .i64 0, .int .i64 0] 24)) (hl1.keep fun k hk => ⟨hk, by rw [heap_al, if_neg (Nat.ne_of_lt hk.2.size)]⟩) (HWL.out.keep fun k hk => ⟨hk, by rw [heap_al, if_neg (by omega)]; exact hb2.block k (by omega)⟩)
        rw [decide_eq_true rfl] at hq
        have HQ := hid hq
        obtain ⟨vs, hvs⟩ := hs1.opn
        have HV := hid (show WLV wo.heap.size 29 (w2.alloc (.cells #[.int .i64 0, .int .i64 0] 24)) (.slice p1 out.length c1') vs out from hvs.keep fun k _ hk => by rw [heap_al, if_neg (Nat.ne_of_lt hk.size)])
        have HB2 := hid (show Below wo.heap.size wo (w2.alloc (.cells #[.int .i64 0, .int .i64 0] 24)) from hb2.alloc hb2.size _)
        have hvl := hvs.2.1
        have hvm : vs.length ≤ 140737488355328 := by have := hl1.le; omega
        clear hbox2 hb2 hq hl1 hs1 hvs
        go_wp2_with (go_at_call 10; with_reducible refine HQ.out.mono ?_; rintro e w3 ⟨rfl, n, rfl⟩)
        obtain ⟨W4, hW4⟩ : ∃ W4, (w2.alloc (.cells #[.int .i64 0, .int .i64 0] 24)).drewN n = W4 := ⟨_, rfl⟩
        rw [hW4]
        have HV4 := hid (show WLV wo.heap.size 29 W4 (.slice p1 out.length c1') vs out from by rw [← hW4]; exact HV.out.keep fun k _ _ => rfl)
        have HB4 := hid (show Below wo.heap.size wo W4 from by rw [← hW4]; exact below_drewN' HB2.out _)
        clear HV HB2 HQ c1 c2 f1 f2 hW4
        go_loopw [10, 11] (fun iv jv W => ∃ (i : Nat) (oz : List (List Wd)), iv = .int .i64 i ∧ i ≤ vs.length ∧ WLV wo.heap.size 29 W (.slice p1 out.length c1') vs oz ∧ Shp oz out ∧ Below wo.heap.size wo W) (fun iv _ _ => vs.length - (intOf iv).toNat)
        case atStart => exact ⟨0, out, rfl, Nat.zero_le _, HV4.out, Shp.refl _, HB4.out⟩
        case round =>
          obtain ⟨i, oz, rfl, hi, hwv, hsh, hbl⟩ := hrel
          by_cases hil : i < vs.length
          · have hoi : i < oz.length := by have := hwv.2.1; omega
            obtain ⟨g, cap, e1, hbg, hrow⟩ := hwv.row i hil
            injection e1 with e1 e2 e3
            subst e1
            subst e3
            clear e2
            obtain ⟨p, c, hvi, hl1, hl2, hcell⟩ := hwv.word i hoi hil
            obtain ⟨len, hlen⟩ : ∃ n, oz[i].length = n := ⟨_, rfl⟩
            rw [hlen] at hvi hl1
            have HVI := hid hvi
            have HWV := hid hwv; have HSH := hid hsh; have HBL := hid hbl
            clear hwv hsh hbl hrow hcell hvi hlen hoi
            go_wp2
            go_loopw [11] (fun jv W => ∃ (j : Nat) (oy : List (List Wd)), jv = .int .i64 j ∧ j ≤ len ∧ WLV wo.heap.size 29 W (.slice (some ⟨g, 0, none⟩) out.length c1') vs oy ∧ Shp oy out ∧ Below wo.heap.size wo W) (fun jv _ => len - (intOf jv).toNat)
            case atStart => exact ⟨0, oz, rfl, Nat.zero_le _, HWV.out, HSH.out, HBL.out⟩
            case round =>
              obtain ⟨j, oy, rfl, hj, hwy, hsy, hby⟩ := hrel
              have hoi : i < oy.length := by have := hwy.2.1; omega
              obtain ⟨g', cap', e1, _, hrow⟩ := hwy.row i hil
              injection e1 with e1 e2 e3
              cases e1
              clear e2 e3
              have d1 := hrow i hil
              rw [HVI.out] at d1
              have hol : i < out.length := by have := hsy.len; omega
              by_cases hjl : j < len
              · have hj63 : (j : Int) + 1 ≤ 9223372036854775807 := by have : len ≤ 9223372036854775807 := Nat.le_trans hl1 hl2; omega
                obtain ⟨p', c', hvi', hl1', hl2', hcell⟩ := hwy.word i hoi hil
                rw [HVI.out] at hvi'
                injection hvi' with e1 e2 e3
                subst e1
                subst e3
                obtain ⟨b, off, rfl, hbb, hsoft, hcc⟩ := hcell j (by omega)
                obtain ⟨⟨x1, a1⟩, ⟨x2, a2⟩, ⟨x3, a3⟩⟩ : (∃ x, wr.cell? ⟨b, off + j * 3, none⟩ = some (.string x)) ∧ (∃ x, wr.cell? ⟨b, off + j * 3 + 1, none⟩ = some (.int .i64 x)) ∧ (∃ x, wr.cell? ⟨b, off + j * 3 + 2, none⟩ = some (.int .i64 x)) := by
                  obtain ⟨a1, a2, a3⟩ := hcc j (by omega)
                  exact ⟨⟨_, a1⟩, ⟨_, a2⟩, ⟨_, a3⟩⟩
                have q1 := hsoft.frozen (i := off + j * 3)
                have q2 := hsoft.frozen (i := off + j * 3 + 1)
                have q3 := hsoft.frozen (i := off + j * 3 + 2)
                obtain ⟨oy', hz, hzs⟩ := hwy.zero i hoi hil j (by omega) HVI.out
                have HZ := hid hz; have HZS := hid (hzs.trans hsy)
                have HBY := hid (((hby.setCell (p := ⟨b, off + j * 3, none⟩) hbb (.string ⟨#[]⟩)).setCell (p := ⟨b, off + j * 3 + 1, none⟩) hbb (.int .i64 0)).setCell (p := ⟨b, off + j * 3 + 2, none⟩) hbb (.int .i64 0))
                clear hz hzs hwy hsy hby hcell hcc hrow hl1' hl2' e2
                go_wp2
                go_roundw
                case rel => exact ⟨j + 1, oy', by go_num, by omega, HZ.out, HZS.out, HBY.out⟩
                case measure => simp [intOf]; omega
              · obtain rfl : j = len := by omega
                have HWY := hid hwy; have HSY := hid hsy; have HBY := hid hby
                clear hwy hsy hby hrow
                go_wp2
                go_roundw
                case rel => exact ⟨i + 1, oy, by go_num, by omega, HWY.out, HSY.out, HBY.out⟩
                case measure => simp [intOf]; omega
          · obtain rfl : i = vs.length := by omega
            have HBL := hid hbl
            clear hwv hbl
            go_wp2
            go_roundw
            case rel => exact ⟨k + 1, rfl, by go_num, by omega, HWL.out.keep fun k hk => ⟨hk, HBL.out.block k (by omega)⟩, (HBL.out.block _ hbx).trans HBOX.out, HBEL.out.trans (HBL.out.mono HBEL.out.size)⟩
            case measure => simp [intOf]; omega
      · obtain rfl : k = 2 := by omega
        have HAW := hid (awake_any m wo ((hbel.cell h0).trans HM.out))
        have HBEL := hid hbel
        clear hbel hwl hbox
        go_wp2_with fail
        refine HAW.out.mono ?_
        rintro e w5 ⟨rfl, hb5⟩
        go_wp2
        go_ret
        exact ⟨rfl, HBEL.out.trans (hb5.mono HBEL.out.size)⟩

end Go.Proofs.Ytgldgkaigomceaa
