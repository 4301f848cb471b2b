/-
  The walk of the reference's Lines of words.
-/
import Derived.Test.YtgldgkaigomceaaTkW
import Derived.Test.YtgldgkaigomceaaReg
import Derived.Laws.IdiomStrings
import Derived.Laws.Concat
import Derived.IntWalk
namespace Go.Proofs.Ytgldgkaigomceaa
set_option linter.unusedSimpArgs false
set_option linter.unusedVariables false
open Go.RowKit Go.Shelf
attribute [local go_sem] Oper.semAt_some

theorem conv1 (c : UInt8) (w : World) : (convert 37 9 (.slice (some ⟨w.heap.size, 0, none⟩) 1 1)).run Try.prog (w.alloc (.cells #[.int .u8 (c.toNat : Int)] 5)) = .ok (.string ⟨#[c]⟩) (w.alloc (.cells #[.int .u8 (c.toNat : Int)] 5)) := by
  refine run_convert_bytes_back _ _ _ _ _ _ [c] Try.underlying37 Try.underlying5 Try.underlying9 ?_
  intro j hj
  obtain rfl : j = 0 := by simp at hj; omega
  exact cell_lit _ _ _ _

theorem Acc.tail {B eo ew g cp kk : Nat} {w : World} {vo : Value} {out : List (List Wd)} {init : List Wd} {x : Wd} (c : UInt8) (h : Acc B eo ew w vo (.slice (some ⟨g, 0, none⟩) kk cp) out (init ++ [x])) :
    Acc B eo ew (w.setCell ⟨g, init.length * 3, none⟩ (.string ⟨(x.1 ++ [c]).toArray⟩)) vo (.slice (some ⟨g, 0, none⟩) kk cp) out (init ++ [(x.1 ++ [c], x.2)]) := by
  obtain ⟨⟨vs, h1, h2, h3⟩, h4, h5⟩ := h
  have hf : ∀ k, k ≠ g → (w.setCell ⟨g, init.length * 3, none⟩ (.string ⟨(x.1 ++ [c]).toArray⟩)).heap[k]? = w.heap[k]? := fun k hk => Below.heap_setCell _ _ _ _ hk
  refine ⟨⟨vs, owns_keepG h1 fun j hj => hf j fun e => h5 j hj (by rw [e]; rfl), h2, h3.keep fun k hb hs hx => ⟨hf k fun e => hx.2 (by rw [e]; rfl), hx⟩⟩, ?_, h5⟩
  · obtain ⟨hl, h4⟩ := h4
    rcases h4 with ⟨e, _⟩ | ⟨g', cap, cur, e, hb, hg, hn, hm, hs, ht⟩
    · cases e
    · cases e
      have el : (init ++ [(x.1 ++ [c], x.2)]).length = (init ++ [x]).length := by simp
      rw [el]
      refine ⟨by rw [wflat_len, el], .inr ⟨g, cp, _, rfl, hb, heap_setCell_at (init.length * 3) _ hg, hn, hm, by simpa using hs, ?_⟩⟩
      rw [Array.toList_setIfInBounds, List.take_set, ht, wflat_append, wflat_append, wflat_one, wflat_one, show init.length * 3 = (wflat init).length by rw [wflat_len], List.set_append_right _ _ (Nat.le_refl _), Nat.sub_self]
      rfl

theorem words_cell {B ew g cp kk : Nat} {w : World} {init : List Wd} {x : Wd} (h : w.ownsRow B ew 3 (.slice (some ⟨g, 0, none⟩) kk cp) (init ++ [x]).length (wflat (init ++ [x]))) :
    w.cell? ⟨g, init.length * 3, none⟩ = some (.string ⟨x.1.toArray⟩) ∧ w.frozen? ⟨g, init.length * 3, none⟩ = false := by
  have hs := owns_soft h g rfl
  refine ⟨?_, hs.frozen⟩
  obtain ⟨hl, h4⟩ := h
  rcases h4 with ⟨e, _⟩ | ⟨g', cap, cur, e, hb, hg, hn, hm, hs, ht⟩
  · cases e
  · cases e
    rw [cell_of_row w g _ cur _ _ hg]
    have e1 : (cur.toList.take ((init ++ [x]).length * 3))[init.length * 3]? = some (.string ⟨x.1.toArray⟩) := by
      rw [ht, wflat_append, List.getElem?_append_right (by rw [wflat_len]; exact Nat.le_refl _), wflat_len, Nat.sub_self, wflat_one]
      rfl
    rw [List.getElem?_take] at e1
    split at e1
    · simpa using e1
    · cases e1

theorem cat1 (t : Bs) (c : UInt8) : (⟨t.toArray⟩ : ByteArray) ++ ⟨#[c]⟩ = ⟨(t ++ [c]).toArray⟩ := by
  rw [ByteArray.mk_append_mk]

/-- The reference's own cells: the position that is handed back, and the one under way. -/
structure Two (w : World) (L C : Nat) (W : World) : Prop where
  b0 : W.heap[w.heap.size]? = some (.cells #[.int .i64 0, .int .i64 0] 24 (0, 0))
  b1 : W.heap[w.heap.size + 1]? = some (.cells #[.int .i64 (L : Int), .int .i64 (C : Int)] 24 (0, 0))
  bel : Below w.heap.size w W

theorem rt_nil (L C : Nat) (out : List (List Wd)) (line : List Wd) (com wd : Bool) : rt [] L C out line com wd = .ok (addL out line) := rfl

set_option maxRecDepth 100000 in
set_option maxHeartbeats 2000000 in
theorem rlines_long (s : Bs) (w : World) (hbig : 65536 < s.length) :
    Calls Try.prog 8 #[.string ⟨s.toArray⟩] w fun e w' => LinesPost s w e w' := by
  have e : linesR s = .error (1, 1, 5) := by unfold linesR; rw [if_pos hbig]
  have HE := hid e
  clear e
  go_enter Try.func8, Try.ntmps8
  go_wp2
  refine bodyPost_ret (v := .tuple #[.slice none 0 0, .agg #[.int .i64 1, .int .i64 1], .int .i64 5]) (by simp [results, Try.results8, go_sem]) rfl ?_
  unfold LinesPost
  rw [HE.out]
  exact ⟨(Below.refl _ _).alloc (Nat.le_refl _) _, rfl⟩

theorem own_addr {base e sz n : Nat} {w : World} {p : Option Addr} {c k : Nat} {xs : List Value} (h : w.ownsRow base e sz (.slice p k c) n xs) (hn : 0 < n) : ∃ g, p = some ⟨g, 0, none⟩ ∧ base ≤ g := by
  rcases h.2 with ⟨_, h0⟩ | ⟨g, cap, cur, e, hb, _⟩
  · omega
  · cases e; exact ⟨g, rfl, hb⟩
theorem u8_eq (c : UInt8) (k : Nat) (hk : k < 256) : c = UInt8.ofNat k ↔ c.toNat = k := by
  constructor
  · rintro rfl; simp; omega
  · intro h; exact UInt8.toNat_inj.1 (by rw [h]; simp; omega)
theorem sep_iff (c : UInt8) : sepB c = true ↔ c.toNat = 32 ∨ c.toNat = 9 := by
  simp only [sepB, Bool.or_eq_true, beq_iff_eq]
  rw [show (32 : UInt8) = UInt8.ofNat 32 from rfl, show (9 : UInt8) = UInt8.ofNat 9 from rfl, u8_eq _ _ (by omega), u8_eq _ _ (by omega)]
theorem bad_iff (c : UInt8) : badB c = true ↔ c.toNat < 32 ∨ 126 < c.toNat := by
  simp only [badB, Bool.or_eq_true, decide_eq_true_eq, UInt8.lt_iff_toNat_lt]
  simp
theorem Two.nl {w : World} {L C : Nat} {W : World} (h : Two w L C W) :
    Two w (L + 1) 1 (((W.setCell ⟨w.heap.size + 1, 0, none⟩ (.int .i64 ((L : Int) + 1))).setCell ⟨w.heap.size + 1, 1, none⟩ (.int .i64 0)).setCell ⟨w.heap.size + 1, 1, none⟩ (.int .i64 1)) ∧
    (∀ k, k ≠ w.heap.size + 1 → (((W.setCell ⟨w.heap.size + 1, 0, none⟩ (.int .i64 ((L : Int) + 1))).setCell ⟨w.heap.size + 1, 1, none⟩ (.int .i64 0)).setCell ⟨w.heap.size + 1, 1, none⟩ (.int .i64 1)).heap[k]? = W.heap[k]?) ∧
    (((W.setCell ⟨w.heap.size + 1, 0, none⟩ (.int .i64 ((L : Int) + 1))).setCell ⟨w.heap.size + 1, 1, none⟩ (.int .i64 0)).setCell ⟨w.heap.size + 1, 1, none⟩ (.int .i64 1)).heap.size = W.heap.size := by
  have f1 : ∀ (A : World) k i v j, j ≠ k → (A.setCell ⟨k, i, none⟩ v).heap[j]? = A.heap[j]? := fun A k i v j hj => Below.heap_setCell _ _ _ _ hj
  refine ⟨⟨?_, ?_, ?_⟩, fun k hk => (f1 _ _ _ _ _ hk).trans ((f1 _ _ _ _ _ hk).trans (f1 _ _ _ _ _ hk)), by simp⟩
  · exact (f1 _ _ _ _ _ (by omega)).trans ((f1 _ _ _ _ _ (by omega)).trans ((f1 _ _ _ _ _ (by omega)).trans h.b0))
  · rw [show ((L + 1 : Nat) : Int) = (L : Int) + 1 by omega]
    exact heap_setCell_at 1 _ (heap_setCell_at 1 _ (heap_setCell_at 0 _ h.b1))
  · exact ((h.bel.setCell (by show w.heap.size ≤ w.heap.size + 1; omega) _).setCell (by show w.heap.size ≤ w.heap.size + 1; omega) _).setCell (by show w.heap.size ≤ w.heap.size + 1; omega) _
theorem Two.col {w : World} {L C : Nat} {W : World} (h : Two w L C W) :
    Two w L (C + 1) (W.setCell ⟨w.heap.size + 1, 1, none⟩ (.int .i64 ((C : Int) + 1))) ∧
    (∀ k, k ≠ w.heap.size + 1 → (W.setCell ⟨w.heap.size + 1, 1, none⟩ (.int .i64 ((C : Int) + 1))).heap[k]? = W.heap[k]?) ∧
    (W.setCell ⟨w.heap.size + 1, 1, none⟩ (.int .i64 ((C : Int) + 1))).heap.size = W.heap.size := by
  have f1 : ∀ (A : World) k i v j, j ≠ k → (A.setCell ⟨k, i, none⟩ v).heap[j]? = A.heap[j]? := fun A k i v j hj => Below.heap_setCell _ _ _ _ hj
  refine ⟨⟨(f1 _ _ _ _ _ (by omega)).trans h.b0, ?_, h.bel.setCell (by show w.heap.size ≤ w.heap.size + 1; omega) _⟩, fun k hk => f1 _ _ _ _ _ hk, by simp⟩
  rw [show ((C + 1 : Nat) : Int) = (C : Int) + 1 by omega]
  exact heap_setCell_at 1 _ h.b1
theorem Two.app {w : World} {L C : Nat} {W w' : World} {row : Option Nat} (h : Two w L C W) (hg : W.grownBy w' row) (hr : ∀ k, row = some k → w.heap.size + 2 ≤ k) : Two w L C w' := by
  have hl0 := (Array.getElem?_eq_some_iff.1 h.b0).1
  have hl1 := (Array.getElem?_eq_some_iff.1 h.b1).1
  exact ⟨(hg.block _ hl0 fun e => by have := hr _ e.symm; omega).trans h.b0, (hg.block _ hl1 fun e => by have := hr _ e.symm; omega).trans h.b1, h.bel.grown hg (by omega) (fun k e => by have := hr k e; omega)⟩
theorem len_tail (c : UInt8) (init : List Wd) (x : Wd) (i : Nat) (h : ∀ y ∈ init ++ [x], y.1.length ≤ i) : ∀ y ∈ init ++ [(x.1 ++ [c], x.2)], y.1.length ≤ i + 1 := by
  intro y hy
  rcases List.mem_append.1 hy with hy | hy
  · have := h y (List.mem_append_left _ hy); omega
  · obtain rfl := List.mem_singleton.1 hy
    have := h x (by simp)
    simp only [List.length_append, List.length_cons, List.length_nil]; omega

set_option maxRecDepth 100000 in
set_option maxHeartbeats 4000000 in
theorem rlines_any (s : Bs) (w : World) :
    Calls Try.prog 8 #[.string ⟨s.toArray⟩] w fun e w' => LinesPost s w e w' := by
  by_cases hbig : 65536 < s.length
  · exact rlines_long s w hbig
  · have hsl : s.length ≤ 65536 := by omega
    clear hbig
    obtain ⟨sb, hsb⟩ : ∃ sb : ByteArray, (⟨s.toArray⟩ : ByteArray) = sb := ⟨_, rfl⟩
    have hll : s = sb.data.toList := by rw [← hsb]
    have hsz : sb.size ≤ 65536 := by rw [← hsb]; show s.toArray.size ≤ _; simp; exact hsl
    have hlen : ¬ 65536 < s.length := by omega
    rw [hsb]
    have HLEN := hid hlen
    have HS0 := hid (show rt (sb.data.toList.drop 0) 1 1 [] [] false false = tok s by rw [hll]; exact rt_tok _)
    clear hll hsl hsb hlen
    go_enter Try.func8, Try.ntmps8
    go_wp2_with fail
    generalize hW0 : World.alloc _ _ = W0
    have h2 : Two w 1 1 W0 := by
      refine ⟨?_, ?_, ?_⟩
      · rw [← hW0]; rw [heap_al, if_neg (by simp only [World.size_alloc]; omega)]; rw [heap_al, if_pos (by simp only [World.size_alloc])]
      · rw [← hW0]; rw [heap_al, if_pos (by simp only [World.size_alloc])]; rfl
      · rw [← hW0]; exact ((Below.refl _ _).alloc (Nat.le_refl _) _).alloc (by simp only [World.size_alloc]; omega) _
    have hsz0 : w.heap.size + 2 ≤ W0.heap.size := by rw [← hW0]; simp only [World.size_alloc]; omega
    have H2 := hid h2
    clear hW0 h2
    go_loopw [2, 4, 5, 6, 8, 9, 10] (fun v2 v4 vo vl v8 v9 iv wr => ∃ (i L C : Nat) (out : List (List Wd)) (line : List Wd) (com wd : Bool), i ≤ sb.size ∧ iv = .int .i64 i ∧ v2 = .slice none 0 0 ∧ v4 = .int .i64 0 ∧ v8 = .bool com ∧ v9 = .bool wd ∧
      Acc (w.heap.size + 2) 29 31 wr vo vl out line ∧ (wd = true → line ≠ []) ∧ rt (sb.data.toList.drop i) L C out line com wd = tok s ∧ Two w L C wr ∧ w.heap.size + 2 ≤ wr.heap.size ∧
      L ≤ i + 1 ∧ C ≤ i + 1 ∧ out.length + line.length ≤ i ∧ (∀ x ∈ line, x.1.length ≤ i)) (fun _ _ _ _ _ _ iv _ => sb.size - (intOf iv).toNat)
    case atStart => exact ⟨0, 1, 1, [], [], false, false, Nat.zero_le _, rfl, rfl, rfl, rfl, rfl, Acc.nil _ _ _ _, (fun h => by cases h), HS0.out, H2.out, hsz0, by omega, by omega, by simp, (fun x h => by cases h)⟩
    case round =>
      obtain ⟨i, L, C, out, line, com, wd, hi, rfl, rfl, rfl, rfl, rfl, ha, hwd, hrt, h2, hws, hL, hC, hol, hxl⟩ := hrel
      obtain ⟨wo, rfl⟩ : ∃ wo : World, wo = wr := ⟨_, rfl⟩
      obtain ⟨pl, cl, rfl⟩ := own_sliceG ha.words
      obtain ⟨us, hus⟩ := ha.vs
      obtain ⟨po, co, rfl⟩ := own_sliceG hus
      have HUS := hid hus
      clear hus
      have HA := hid ha; have H2 := hid h2; have HXL := hid hxl; have HWD := hid hwd
      obtain ⟨c0, c0', f0, f0'⟩ := cell_lit2 h2.b0
      obtain ⟨c1, c1', f1, f1'⟩ := cell_lit2 h2.b1
      clear ha h2 hxl hwd HS0
      by_cases hlti : i < sb.size
      · have hdr : sb.data.toList.drop i = sb[i] :: sb.data.toList.drop (i + 1) := List.drop_eq_getElem_cons hlti
        rw [hdr] at hrt
        clear hdr
        unfold rt at hrt
        by_cases h10 : sb[i] = 10
        · rw [if_pos h10] at hrt
          have HRT := hid hrt
          have a1 : decide (32 < (sb[i].toNat : Int)) = false := by rw [h10]; rfl
          have a4 : ((sb[i].toNat : Int) == 10) = true := by rw [h10]; rfl
          clear hrt h10
          by_cases hl0 : line = []
          · subst hl0
            go_wp2
            obtain ⟨g1, g2, g3⟩ := H2.out.nl
            go_roundw
            case rel => exact ⟨i + 1, L + 1, 1, out, [], false, false, by omega, by go_num, rfl, rfl, rfl, rfl, HA.out.drop.keep fun k hk _ => g2 k (by omega), (fun h => by cases h), HRT.out, g1, by rw [g3]; omega, by omega, by omega, by simp at hol ⊢; omega, (fun x hx => by cases hx)⟩
            case measure => simp [intOf]; omega
          · have hl1 : 0 < line.length := List.length_pos_iff.2 hl0
            have e10 : addL out line = out ++ [line] := by unfold addL; rw [if_neg hl0]
            rw [e10] at HRT
            clear e10 hl0
            go_wp2_with (at_builtin; refine wpList_appG _ rfl (.tmp 44) (.tmp 46) 22 rfl (w.heap.size + 2) 29 (.slice none 0 0) 1 24 Try.underlying22 info_Words rfl (by decide) (.slice po out.length co) out.length us rfl (HUS.out.alloc _) ⟨wo.heap.size, 0, none⟩ 1 1 [.slice pl line.length cl] rfl rfl (RowR.lit wo [.slice pl line.length cl] 29 rfl) (by simp [Value.oneCell']) (by omega) (by unfold maxLen; omega) (by rw [World.size_alloc]; omega) ?_; intro v6 w6 ho6 hg6 hv6; obtain ⟨p6, c6, rfl⟩ := own_sliceG ho6; have hga := (World.grownBy_alloc wo _ _).trans hg6; have HN := hid (HA.out.line hg6 HUS.out ho6 hv6); have hs6 := hga.size; have h26 := H2.out.app hga (fun k e => (HUS.out.lt k e).1); have H26 := hid h26; obtain ⟨d1, d1', e1, e1'⟩ := cell_lit2 h26.b1; clear ho6 hg6 hv6 hga h26)
            obtain ⟨g1, g2, g3⟩ := H26.out.nl
            go_roundw
            case rel => exact ⟨i + 1, L + 1, 1, out ++ [line], [], false, false, by omega, by go_num, rfl, rfl, rfl, rfl, HN.out.keep fun k hk _ => g2 k (by omega), (fun h => by cases h), HRT.out, g1, by rw [g3]; omega, by omega, by omega, by simp; omega, (fun x hx => by cases hx)⟩
            case measure => simp [intOf]; omega
        · rw [if_neg h10] at hrt
          have h10' : sb[i].toNat ≠ 10 := fun h => h10 ((u8_eq _ 10 (by omega)).2 h)
          have a4 : ((sb[i].toNat : Int) == 10) = false := by simp; omega
          clear h10
          have hk : sb[i].toNat = 35 ∨ sb[i].toNat = 9 ∨ sb[i].toNat = 32 ∨ (sb[i].toNat < 32 ∧ sb[i].toNat ≠ 9) ∨ 126 < sb[i].toNat ∨ (32 < sb[i].toNat ∧ sb[i].toNat ≤ 126 ∧ sb[i].toNat ≠ 35) := by omega
          rcases hk with hk | hk | hk | ⟨hk, hk2⟩ | hk | ⟨hk, hk2, hk3⟩
          · have a1 : decide (32 < (sb[i].toNat : Int)) = true := by simp; omega
            have a2 : decide ((sb[i].toNat : Int) < 127) = true := by simp; omega
            have a3 : ((sb[i].toNat : Int) != 35) = false := by simp; omega
            have a5 : ((sb[i].toNat : Int) == 35) = true := by simp; omega
            cases com with
            | true =>
              rw [if_pos rfl] at hrt
              have HRT := hid hrt
              clear hrt
              go_wp2
              obtain ⟨g1, g2, g3⟩ := (H2.out).col
              go_roundw
              case rel => exact ⟨i + 1, L, C + 1, out, line, true, wd, by omega, by go_num, rfl, rfl, rfl, rfl, (HA.out).keep fun k hk _ => g2 k (by omega), HWD.out, HRT.out, g1, by rw [g3]; omega, by omega, by omega, (by omega), (fun x hx => by have := HXL.out x hx; omega)⟩
              case measure => simp [intOf]; omega
            | false =>
              rw [if_neg (by decide), if_pos (by rw [show (35 : UInt8) = UInt8.ofNat 35 from rfl, u8_eq _ _ (by omega)]; omega)] at hrt
              have HRT := hid hrt
              clear hrt
              go_wp2
              obtain ⟨g1, g2, g3⟩ := (H2.out).col
              go_roundw
              case rel => exact ⟨i + 1, L, C + 1, out, line, true, wd, by omega, by go_num, rfl, rfl, rfl, rfl, (HA.out).keep fun k hk _ => g2 k (by omega), HWD.out, HRT.out, g1, by rw [g3]; omega, by omega, by omega, (by omega), (fun x hx => by have := HXL.out x hx; omega)⟩
              case measure => simp [intOf]; omega
          · have a1 : decide (32 < (sb[i].toNat : Int)) = false := by simp; omega
            have a5 : ((sb[i].toNat : Int) == 35) = false := by simp; omega
            have a6 : ((sb[i].toNat : Int) == 9) = true := by simp; omega
            cases com with
            | true =>
              rw [if_pos rfl] at hrt
              have HRT := hid hrt
              clear hrt
              go_wp2
              obtain ⟨g1, g2, g3⟩ := (H2.out).col
              go_roundw
              case rel => exact ⟨i + 1, L, C + 1, out, line, true, wd, by omega, by go_num, rfl, rfl, rfl, rfl, (HA.out).keep fun k hk _ => g2 k (by omega), HWD.out, HRT.out, g1, by rw [g3]; omega, by omega, by omega, (by omega), (fun x hx => by have := HXL.out x hx; omega)⟩
              case measure => simp [intOf]; omega
            | false =>
              rw [if_neg (by decide), if_neg (by rw [show (35 : UInt8) = UInt8.ofNat 35 from rfl, u8_eq _ _ (by omega)]; omega), if_pos ((sep_iff _).2 (by omega))] at hrt
              have HRT := hid hrt
              clear hrt
              go_wp2
              obtain ⟨g1, g2, g3⟩ := (H2.out).col
              go_roundw
              case rel => exact ⟨i + 1, L, C + 1, out, line, false, false, by omega, by go_num, rfl, rfl, rfl, rfl, (HA.out).keep fun k hk _ => g2 k (by omega), (fun h => by cases h), HRT.out, g1, by rw [g3]; omega, by omega, by omega, (by omega), (fun x hx => by have := HXL.out x hx; omega)⟩
              case measure => simp [intOf]; omega
          · have a1 : decide (32 < (sb[i].toNat : Int)) = false := by simp; omega
            have a5 : ((sb[i].toNat : Int) == 35) = false := by simp; omega
            have a6 : ((sb[i].toNat : Int) == 9) = false := by simp; omega
            have a7 : ((sb[i].toNat : Int) == 32) = true := by simp; omega
            cases com with
            | true =>
              rw [if_pos rfl] at hrt
              have HRT := hid hrt
              clear hrt
              go_wp2
              obtain ⟨g1, g2, g3⟩ := (H2.out).col
              go_roundw
              case rel => exact ⟨i + 1, L, C + 1, out, line, true, wd, by omega, by go_num, rfl, rfl, rfl, rfl, (HA.out).keep fun k hk _ => g2 k (by omega), HWD.out, HRT.out, g1, by rw [g3]; omega, by omega, by omega, (by omega), (fun x hx => by have := HXL.out x hx; omega)⟩
              case measure => simp [intOf]; omega
            | false =>
              rw [if_neg (by decide), if_neg (by rw [show (35 : UInt8) = UInt8.ofNat 35 from rfl, u8_eq _ _ (by omega)]; omega), if_pos ((sep_iff _).2 (by omega))] at hrt
              have HRT := hid hrt
              clear hrt
              go_wp2
              obtain ⟨g1, g2, g3⟩ := (H2.out).col
              go_roundw
              case rel => exact ⟨i + 1, L, C + 1, out, line, false, false, by omega, by go_num, rfl, rfl, rfl, rfl, (HA.out).keep fun k hk _ => g2 k (by omega), (fun h => by cases h), HRT.out, g1, by rw [g3]; omega, by omega, by omega, (by omega), (fun x hx => by have := HXL.out x hx; omega)⟩
              case measure => simp [intOf]; omega
          · have a1 : decide (32 < (sb[i].toNat : Int)) = false := by simp; omega
            have a5 : ((sb[i].toNat : Int) == 35) = false := by simp; omega
            have a6 : ((sb[i].toNat : Int) == 9) = false := by simp; omega
            have a7 : ((sb[i].toNat : Int) == 32) = false := by simp; omega
            cases com with
            | true =>
              rw [if_pos rfl] at hrt
              have HRT := hid hrt
              clear hrt
              go_wp2
              obtain ⟨g1, g2, g3⟩ := (H2.out).col
              go_roundw
              case rel => exact ⟨i + 1, L, C + 1, out, line, true, wd, by omega, by go_num, rfl, rfl, rfl, rfl, (HA.out).keep fun k hk _ => g2 k (by omega), HWD.out, HRT.out, g1, by rw [g3]; omega, by omega, by omega, (by omega), (fun x hx => by have := HXL.out x hx; omega)⟩
              case measure => simp [intOf]; omega
            | false =>
              rw [if_neg (by decide), if_neg (by rw [show (35 : UInt8) = UInt8.ofNat 35 from rfl, u8_eq _ _ (by omega)]; omega), if_neg (fun h => by have := (sep_iff _).1 h; omega), if_pos ((bad_iff _).2 (by omega))] at hrt
              have HRT := hid hrt
              clear hrt
              have HE := hid (show linesR s = .error (L, C, 4) from by unfold linesR; rw [if_neg HLEN.out, ← HRT.out])
              have hS : (fun W' : World => W'.cell? ⟨w.heap.size + 1, 0, none⟩ = some (.int .i64 (L : Int)) ∧ W'.cell? ⟨w.heap.size + 1, 1, none⟩ = some (.int .i64 (C : Int))) wo.drew := ⟨c1, c1'⟩
              go_wp2_with fail
              have hFa : ∀ f, Fence.wide.fn f := fun _ => trivial
              refine (wpIn_wide (n := 9)).1 ?_
              refine wpIn_onlyN ?_
              refine wpIn_region_HJ (fun W' : World => W'.cell? ⟨w.heap.size + 1, 0, none⟩ = some (.int .i64 (L : Int)) ∧ W'.cell? ⟨w.heap.size + 1, 1, none⟩ = some (.int .i64 (C : Int))) 2 (by kernel_rfl) ?_
              simp only [List.size_toArray, List.length_cons, List.length_nil, Nat.reduceAdd]
              refine wpHJ_take (v := ?vqa0) 0 hFa rfl (by kernel_rfl) (fun _ _ _ h => h.elim) (Or.inl ⟨by rfl, ?yqa0⟩) hS ?rqa0
              case yqa0 => (intro w' hS'; obtain ⟨s1, s2⟩ := hS'; go_simp; try rfl)
              simp only [Act.put, List.getElem_toArray, List.getElem_cons_succ, List.getElem_cons_zero, List.setIfInBounds_toArray, List.set_cons_zero, List.set_cons_succ]
              refine wpHJ_pure (v := ?vqa1) 1 hFa rfl (by kernel_rfl) (fun _ _ _ h => h.elim) (Or.inl ⟨by rfl, ?yqa1⟩) (.inr hS) ?rqa1
              case yqa1 => (intro w' _; go_simp; try rfl)
              simp only [Act.put, List.getElem_toArray, List.getElem_cons_succ, List.getElem_cons_zero, List.setIfInBounds_toArray, List.set_cons_zero, List.set_cons_succ]
              refine wpHJ_only 2 (by kernel_rfl) rfl ?_
              intro K hK
              go_simp
              refine hK _ _ (.inl rfl) ?_
              clear hK K
              refine wpHJ_pure (v := ?vqa3) 3 hFa rfl (by kernel_rfl) (fun _ _ _ h => h.elim) (Or.inl ⟨by rfl, ?yqa3⟩) (.inl rfl) ?rqa3
              case yqa3 => (intro w' _; go_simp; try rfl)
              simp only [Act.put, List.getElem_toArray, List.getElem_cons_succ, List.getElem_cons_zero, List.setIfInBounds_toArray, List.set_cons_zero, List.set_cons_succ]
              refine wpHJ_done (by kernel_rfl) ?_ _
              simp only [onlyN, Exit.then]
              clear hFa
              go_wp2
              refine bodyPost_ret (v := .tuple #[.slice none 0 0, .agg #[.int .i64 L, .int .i64 C], .int .i64 4]) (by simp [results, Try.results8, go_sem, c0, c0']) rfl ?_
              unfold LinesPost
              rw [HE.out]
              exact ⟨(H2.out.bel.drew.setCell (by show w.heap.size ≤ w.heap.size; omega) _).setCell (by show w.heap.size ≤ w.heap.size; omega) _, rfl⟩
          · have a1 : decide (32 < (sb[i].toNat : Int)) = true := by simp; omega
            have a2 : decide ((sb[i].toNat : Int) < 127) = false := by simp; omega
            have a5 : ((sb[i].toNat : Int) == 35) = false := by simp; omega
            have a6 : ((sb[i].toNat : Int) == 9) = false := by simp; omega
            have a7 : ((sb[i].toNat : Int) == 32) = false := by simp; omega
            cases com with
            | true =>
              rw [if_pos rfl] at hrt
              have HRT := hid hrt
              clear hrt
              go_wp2
              obtain ⟨g1, g2, g3⟩ := (H2.out).col
              go_roundw
              case rel => exact ⟨i + 1, L, C + 1, out, line, true, wd, by omega, by go_num, rfl, rfl, rfl, rfl, (HA.out).keep fun k hk _ => g2 k (by omega), HWD.out, HRT.out, g1, by rw [g3]; omega, by omega, by omega, (by omega), (fun x hx => by have := HXL.out x hx; omega)⟩
              case measure => simp [intOf]; omega
            | false =>
              rw [if_neg (by decide), if_neg (by rw [show (35 : UInt8) = UInt8.ofNat 35 from rfl, u8_eq _ _ (by omega)]; omega), if_neg (fun h => by have := (sep_iff _).1 h; omega), if_pos ((bad_iff _).2 (by omega))] at hrt
              have HRT := hid hrt
              clear hrt
              have HE := hid (show linesR s = .error (L, C, 4) from by unfold linesR; rw [if_neg HLEN.out, ← HRT.out])
              have hS : (fun W' : World => W'.cell? ⟨w.heap.size + 1, 0, none⟩ = some (.int .i64 (L : Int)) ∧ W'.cell? ⟨w.heap.size + 1, 1, none⟩ = some (.int .i64 (C : Int))) wo.drew := ⟨c1, c1'⟩
              go_wp2_with fail
              have hFa : ∀ f, Fence.wide.fn f := fun _ => trivial
              refine (wpIn_wide (n := 9)).1 ?_
              refine wpIn_onlyN ?_
              refine wpIn_region_HJ (fun W' : World => W'.cell? ⟨w.heap.size + 1, 0, none⟩ = some (.int .i64 (L : Int)) ∧ W'.cell? ⟨w.heap.size + 1, 1, none⟩ = some (.int .i64 (C : Int))) 2 (by kernel_rfl) ?_
              simp only [List.size_toArray, List.length_cons, List.length_nil, Nat.reduceAdd]
              refine wpHJ_take (v := ?vqb0) 0 hFa rfl (by kernel_rfl) (fun _ _ _ h => h.elim) (Or.inl ⟨by rfl, ?yqb0⟩) hS ?rqb0
              case yqb0 => (intro w' hS'; obtain ⟨s1, s2⟩ := hS'; go_simp; try rfl)
              simp only [Act.put, List.getElem_toArray, List.getElem_cons_succ, List.getElem_cons_zero, List.setIfInBounds_toArray, List.set_cons_zero, List.set_cons_succ]
              refine wpHJ_pure (v := ?vqb1) 1 hFa rfl (by kernel_rfl) (fun _ _ _ h => h.elim) (Or.inl ⟨by rfl, ?yqb1⟩) (.inr hS) ?rqb1
              case yqb1 => (intro w' _; go_simp; try rfl)
              simp only [Act.put, List.getElem_toArray, List.getElem_cons_succ, List.getElem_cons_zero, List.setIfInBounds_toArray, List.set_cons_zero, List.set_cons_succ]
              refine wpHJ_only 2 (by kernel_rfl) rfl ?_
              intro K hK
              go_simp
              refine hK _ _ (.inl rfl) ?_
              clear hK K
              refine wpHJ_pure (v := ?vqb3) 3 hFa rfl (by kernel_rfl) (fun _ _ _ h => h.elim) (Or.inl ⟨by rfl, ?yqb3⟩) (.inl rfl) ?rqb3
              case yqb3 => (intro w' _; go_simp; try rfl)
              simp only [Act.put, List.getElem_toArray, List.getElem_cons_succ, List.getElem_cons_zero, List.setIfInBounds_toArray, List.set_cons_zero, List.set_cons_succ]
              refine wpHJ_done (by kernel_rfl) ?_ _
              simp only [onlyN, Exit.then]
              clear hFa
              go_wp2
              refine bodyPost_ret (v := .tuple #[.slice none 0 0, .agg #[.int .i64 L, .int .i64 C], .int .i64 4]) (by simp [results, Try.results8, go_sem, c0, c0']) rfl ?_
              unfold LinesPost
              rw [HE.out]
              exact ⟨(H2.out.bel.drew.setCell (by show w.heap.size ≤ w.heap.size; omega) _).setCell (by show w.heap.size ≤ w.heap.size; omega) _, rfl⟩
          · have a1 : decide (32 < (sb[i].toNat : Int)) = true := by simp; omega
            have a2 : decide ((sb[i].toNat : Int) < 127) = true := by simp; omega
            have a3 : ((sb[i].toNat : Int) != 35) = true := by simp; omega
            have a5 : ((sb[i].toNat : Int) == 35) = false := by simp; omega
            cases com with
            | true =>
              rw [if_pos rfl] at hrt
              have HRT := hid hrt
              clear hrt
              go_wp2
              obtain ⟨g1, g2, g3⟩ := (H2.out).col
              go_roundw
              case rel => exact ⟨i + 1, L, C + 1, out, line, true, wd, by omega, by go_num, rfl, rfl, rfl, rfl, (HA.out).keep fun k hk _ => g2 k (by omega), HWD.out, HRT.out, g1, by rw [g3]; omega, by omega, by omega, (by omega), (fun x hx => by have := HXL.out x hx; omega)⟩
              case measure => simp [intOf]; omega
            | false =>
              rw [if_neg (by decide), if_neg (by rw [show (35 : UInt8) = UInt8.ofNat 35 from rfl, u8_eq _ _ (by omega)]; omega), if_neg (fun h => by have := (sep_iff _).1 h; omega), if_neg (fun h => by have := (bad_iff _).1 h; omega)] at hrt
              have hcv := fun wx => conv1 sb[i] wx
              cases wd with
              | false =>
                rw [if_neg (by decide)] at hrt
                have HRT := hid hrt
                clear hrt
                have q1 : (wo.alloc (.cells #[.int .u8 (sb[i].toNat : Int)] 5)).cell? ⟨w.heap.size + 1, 0, none⟩ = some (.int .i64 (L : Int)) := by rw [cell_al, if_neg (by omega)]; exact c1
                have q2 : (wo.alloc (.cells #[.int .u8 (sb[i].toNat : Int)] 5)).cell? ⟨w.heap.size + 1, 1, none⟩ = some (.int .i64 (C : Int)) := by rw [cell_al, if_neg (by omega)]; exact c1'
                have hrow : RowR (fun _ => True) ((wo.alloc (.cells #[.int .u8 (sb[i].toNat : Int)] 5)).alloc (.cells #[.string ⟨#[sb[i]]⟩, .int .i64 (L : Int), .int .i64 (C : Int)] 31)) (some ⟨wo.heap.size + 1, 0, none⟩) (wcells ([sb[i]], L, C)) := by
                  have := RowR.lit (R := fun _ => True) (wo.alloc (.cells #[.int .u8 (sb[i].toNat : Int)] 5)) (wcells ([sb[i]], L, C)) 31 trivial
                  rw [World.size_alloc] at this
                  exact this
                have HROW := hid hrow
                clear hrow
                go_wp2_with (at_builtin; refine wpList_appG _ rfl (.tmp 81) (.tmp 87) 29 rfl (w.heap.size + 2) 31 (.agg #[.string ⟨#[]⟩, .int .i64 0, .int .i64 0]) 3 32 Try.underlying29 info_Word rfl (by decide) (.slice pl line.length cl) line.length _ rfl ((HA.out.alloc _).words.alloc _) ⟨wo.heap.size + 1, 0, none⟩ 1 1 (wcells ([sb[i]], L, C)) rfl rfl HROW.out (by simp [wcells, Value.oneCell']) (by omega) (by unfold maxLen; omega) (by simp only [World.size_alloc]; omega) ?_; intro v6 w6 ho6 hg6 hv6; obtain ⟨p6, c6, rfl⟩ := own_sliceG ho6; have hga := ((World.grownBy_alloc wo (.cells #[.int .u8 (sb[i].toNat : Int)] 5) _).trans (World.grownBy_alloc _ _ _)).trans hg6; have HN := hid ((HA.out.alloc (.cells #[.int .u8 (sb[i].toNat : Int)] 5)).push hg6 ho6 hv6); have hs6 := hga.size; have h26 := H2.out.app hga (fun k e => (HA.out.words.lt k e).1); have H26 := hid h26; obtain ⟨d1, d1', e1, e1'⟩ := cell_lit2 h26.b1; clear ho6 hg6 hv6 hga h26)
                obtain ⟨g1, g2, g3⟩ := (H26.out).col
                go_roundw
                case rel => exact ⟨i + 1, L, C + 1, out, line ++ [([sb[i]], L, C)], false, true, by omega, by go_num, rfl, rfl, rfl, rfl, (HN.out).keep fun k hk _ => g2 k (by omega), (fun _ => by simp), HRT.out, g1, by rw [g3]; omega, by omega, by omega, by simp; omega, (fun x hx => by rcases List.mem_append.1 hx with hx | hx; (have := HXL.out x hx; omega); (obtain rfl := List.mem_singleton.1 hx; simp))⟩
                case measure => simp [intOf]; omega
              | true =>
                rw [if_pos rfl] at hrt
                obtain ⟨init, x, hlx⟩ : ∃ init x, line = init ++ [x] := by
                  rcases List.eq_nil_or_concat line with h | ⟨init, x, h⟩
                  · exact absurd h (HWD.out rfl)
                  · exact ⟨init, x, by simpa using h⟩
                have hln : line.length = init.length + 1 := by rw [hlx]; simp
                rw [hln] at HA ⊢
                subst hlx
                have hrt' : rt (sb.data.toList.drop (i + 1)) L (C + 1) out (init ++ [(x.1 ++ [sb[i]], x.2)]) false true = tok s := by
                  rw [← hrt]; congr 1; exact (tail1_snoc _ _ _ _).symm
                have HRT := hid hrt'
                have hxs := HXL.out x (by simp)
                clear hrt hrt'
                obtain ⟨g, rfl, hg⟩ := own_addr HA.out.words (by simp)
                obtain ⟨k1, k2⟩ := words_cell HA.out.words
                have hglt := (HA.out.words.lt g rfl).2
                have hadd : ∀ wx, (Op.stringOp .add ⟨x.1.toArray⟩ ⟨#[sb[i]]⟩).run Try.prog wx = .ok (.string ⟨(x.1 ++ [sb[i]]).toArray⟩) wx := fun wx => by
                  rw [run_string_add_sum wx _ _ (by show x.1.toArray.size + 1 ≤ _; simp; omega), cat1]
                have hS : (fun W' : World => W'.cell? ⟨g, init.length * 3, none⟩ = some (.string ⟨x.1.toArray⟩)) wo.drew := k1
                have hS2 : (fun W' : World => W'.cell? ⟨g, init.length * 3, none⟩ = some (.string ⟨x.1.toArray⟩)) ((wo.alloc (.cells #[.int .u8 (sb[i].toNat : Int)] 5)).drew) := by
                  show World.cell? (wo.alloc _) _ = _
                  rw [cell_al, if_neg (by omega)]; exact k1
                have hcvd : (convert 37 9 (.slice (some ⟨wo.heap.size, 0, none⟩) 1 1)).run Try.prog ((wo.alloc (.cells #[.int .u8 (sb[i].toNat : Int)] 5)).drew) = .ok (.string ⟨#[sb[i]]⟩) ((wo.alloc (.cells #[.int .u8 (sb[i].toNat : Int)] 5)).drew) := conv1 sb[i] wo.drew
                have hl1 : ((init.length : Int) < (init.length : Int) + 1) := by omega
                have hwr : IntKind.i64.wrap (init.length : Int) = (init.length : Int) := IntWalk.i64_in _ (by simp at hol; omega)
                go_wp2_with fail
                have hFa : ∀ f, Fence.wide.fn f := fun _ => trivial
                refine (wpIn_wide (n := 9)).1 ?_
                refine wpIn_onlyN ?_
                refine wpIn_region_HJ (fun W' : World => W'.cell? ⟨g, init.length * 3, none⟩ = some (.string ⟨x.1.toArray⟩)) 17 (by kernel_rfl) ?_
                simp only [List.size_toArray, List.length_cons, List.length_nil, Nat.reduceAdd]
                refine wpHJ_pure (v := ?vp0) 0 hFa rfl (by kernel_rfl) (fun _ _ _ h => h.elim) (Or.inl ⟨by rfl, ?yp0⟩) (.inr hS) ?rp0
                case yp0 => (intro w' _; go_simp; try rfl)
                simp only [Act.put, List.getElem_toArray, List.getElem_cons_succ, List.getElem_cons_zero, List.setIfInBounds_toArray, List.set_cons_zero, List.set_cons_succ]
                refine wpHJ_pure (v := ?vp1) 1 hFa rfl (by kernel_rfl) (fun _ _ _ h => h.elim) (Or.inl ⟨by rfl, ?yp1⟩) (.inr hS) ?rp1
                case yp1 => (intro w' _; go_simp; try rfl)
                simp only [Act.put, List.getElem_toArray, List.getElem_cons_succ, List.getElem_cons_zero, List.setIfInBounds_toArray, List.set_cons_zero, List.set_cons_succ]
                refine wpHJ_pure (v := ?vp2) 2 hFa rfl (by kernel_rfl) (fun _ _ _ h => h.elim) (Or.inl ⟨by rfl, ?yp2⟩) (.inr hS) ?rp2
                case yp2 => (intro w' _; go_simp; try rfl)
                simp only [Act.put, List.getElem_toArray, List.getElem_cons_succ, List.getElem_cons_zero, List.setIfInBounds_toArray, List.set_cons_zero, List.set_cons_succ]
                refine wpHJ_pure (v := ?vp3) 3 hFa rfl (by kernel_rfl) (fun _ _ _ h => h.elim) (Or.inl ⟨by rfl, ?yp3⟩) (.inr hS) ?rp3
                case yp3 => (intro w' _; go_simp; try rfl)
                simp only [Act.put, List.getElem_toArray, List.getElem_cons_succ, List.getElem_cons_zero, List.setIfInBounds_toArray, List.set_cons_zero, List.set_cons_succ]
                refine wpHJ_pure (v := ?vp4) 4 hFa rfl (by kernel_rfl) (fun _ _ _ h => h.elim) (Or.inl ⟨by rfl, ?yp4⟩) (.inr hS) ?rp4
                case yp4 => (intro w' _; go_simp; try rfl)
                simp only [Act.put, List.getElem_toArray, List.getElem_cons_succ, List.getElem_cons_zero, List.setIfInBounds_toArray, List.set_cons_zero, List.set_cons_succ]
                refine wpHJ_pure (v := ?vp5) 5 hFa rfl (by kernel_rfl) (fun _ _ _ h => h.elim) (Or.inl ⟨by rfl, ?yp5⟩) (.inr hS) ?rp5
                case yp5 => (intro w' _; go_simp; try rfl)
                simp only [Act.put, List.getElem_toArray, List.getElem_cons_succ, List.getElem_cons_zero, List.setIfInBounds_toArray, List.set_cons_zero, List.set_cons_succ]
                refine wpHJ_pure (v := ?vp6) 6 hFa rfl (by kernel_rfl) (fun _ _ _ h => h.elim) (Or.inl ⟨by rfl, ?yp6⟩) (.inr hS) ?rp6
                case yp6 => (intro w' _; go_simp; try rfl)
                simp only [Act.put, List.getElem_toArray, List.getElem_cons_succ, List.getElem_cons_zero, List.setIfInBounds_toArray, List.set_cons_zero, List.set_cons_succ]
                refine wpHJ_pure (v := ?vp7) 7 hFa rfl (by kernel_rfl) (fun _ _ _ h => h.elim) (Or.inl ⟨by rfl, ?yp7⟩) (.inr hS) ?rp7
                case yp7 => (intro w' _; go_simp; try rfl)
                simp only [Act.put, List.getElem_toArray, List.getElem_cons_succ, List.getElem_cons_zero, List.setIfInBounds_toArray, List.set_cons_zero, List.set_cons_succ]
                refine wpHJ_pure (v := ?vp8) 8 hFa rfl (by kernel_rfl) (fun _ _ _ h => h.elim) (Or.inl ⟨by rfl, ?yp8⟩) (.inr hS) ?rp8
                case yp8 => (intro w' _; go_simp; try rfl)
                simp only [Act.put, List.getElem_toArray, List.getElem_cons_succ, List.getElem_cons_zero, List.setIfInBounds_toArray, List.set_cons_zero, List.set_cons_succ]
                refine wpHJ_pure (v := ?vp9) 9 hFa rfl (by kernel_rfl) (fun _ _ _ h => h.elim) (Or.inl ⟨by rfl, ?yp9⟩) (.inr hS) ?rp9
                case yp9 => (intro w' _; go_simp; try rfl)
                simp only [Act.put, List.getElem_toArray, List.getElem_cons_succ, List.getElem_cons_zero, List.setIfInBounds_toArray, List.set_cons_zero, List.set_cons_succ]
                refine wpHJ_take (v := ?vp10) 10 hFa rfl (by kernel_rfl) (fun _ _ _ h => h.elim) (Or.inl ⟨by rfl, ?yp10⟩) hS ?rp10
                case yp10 => (intro w' hS'; obtain s1 := hS'; go_simp; try rfl)
                simp only [Act.put, List.getElem_toArray, List.getElem_cons_succ, List.getElem_cons_zero, List.setIfInBounds_toArray, List.set_cons_zero, List.set_cons_succ]
                refine wpHJ_pure (v := ?vp11) 11 hFa rfl (by kernel_rfl) (fun _ _ _ h => h.elim) (Or.inl ⟨by rfl, ?yp11⟩) (.inr hS) ?rp11
                case yp11 => (intro w' _; go_simp; try rfl)
                simp only [Act.put, List.getElem_toArray, List.getElem_cons_succ, List.getElem_cons_zero, List.setIfInBounds_toArray, List.set_cons_zero, List.set_cons_succ]
                refine wpHJ_only 12 (by kernel_rfl) rfl ?_
                intro K hK
                go_simp
                refine hK _ _ (.inr (.inr hS2)) ?_
                clear hK K
                refine wpHJ_only 13 (by kernel_rfl) rfl ?_
                intro K hK
                go_simp
                refine hK _ _ (.inr (.inr hS2)) ?_
                clear hK K
                refine wpHJ_pure (v := ?vp14) 14 hFa rfl (by kernel_rfl) (fun _ _ _ h => h.elim) (Or.inl ⟨by rfl, ?yp14⟩) (.inr hS2) ?rp14
                case yp14 => (intro w' _; go_simp; try rfl)
                simp only [Act.put, List.getElem_toArray, List.getElem_cons_succ, List.getElem_cons_zero, List.setIfInBounds_toArray, List.set_cons_zero, List.set_cons_succ]
                refine wpHJ_pure (v := ?vp15) 15 hFa rfl (by kernel_rfl) (fun _ _ _ h => h.elim) (Or.inl ⟨by rfl, ?yp15⟩) (.inr hS2) ?rp15
                case yp15 => (intro w' _; go_simp; try rfl)
                simp only [Act.put, List.getElem_toArray, List.getElem_cons_succ, List.getElem_cons_zero, List.setIfInBounds_toArray, List.set_cons_zero, List.set_cons_succ]
                refine wpHJ_pure (v := ?vp16) 16 hFa rfl (by kernel_rfl) (fun _ _ _ h => h.elim) (Or.inl ⟨by rfl, ?yp16⟩) (.inr hS2) ?rp16
                case yp16 => (intro w' _; go_simp; try rfl)
                simp only [Act.put, List.getElem_toArray, List.getElem_cons_succ, List.getElem_cons_zero, List.setIfInBounds_toArray, List.set_cons_zero, List.set_cons_succ]
                refine wpHJ_only 17 (by kernel_rfl) rfl ?_
                intro K hK
                go_simp
                refine hK _ _ (.inl rfl) ?_
                clear hK K
                refine wpHJ_done (by kernel_rfl) ?_ _
                simp only [onlyN, Exit.then]
                clear hFa
                have hA7 := ((HA.out.tail sb[i]).alloc (.cells #[.int .u8 (sb[i].toNat : Int)] 5)).keep (w' := ((wo.setCell ⟨g, init.length * 3, none⟩ (.string ⟨(x.1 ++ [sb[i]]).toArray⟩)).alloc (.cells #[.int .u8 (sb[i].toNat : Int)] 5)).drew) (fun k _ _ => rfl)
                have h27 : Two w L C ((wo.setCell ⟨g, init.length * 3, none⟩ (.string ⟨(x.1 ++ [sb[i]]).toArray⟩)).alloc (.cells #[.int .u8 (sb[i].toNat : Int)] 5)).drew :=
                  H2.out.app (row := some g) ⟨rfl, rfl, rfl, by show wo.heap.size ≤ ((wo.setCell _ _).alloc _).heap.size; rw [World.size_alloc]; simp, fun k hk hne => by
                    show ((wo.setCell _ _).alloc _).heap[k]? = _
                    rw [heap_al, if_neg (by simp; omega)]
                    exact Below.heap_setCell _ _ _ _ (fun e => hne (by rw [e]))⟩ (fun k e => by cases e; exact hg)
                have hs7 : wo.heap.size ≤ ((wo.setCell ⟨g, init.length * 3, none⟩ (.string ⟨(x.1 ++ [sb[i]]).toArray⟩)).alloc (.cells #[.int .u8 (sb[i].toNat : Int)] 5)).drew.heap.size := by
                  show wo.heap.size ≤ ((wo.setCell _ _).alloc _).heap.size; rw [World.size_alloc]; simp
                generalize ((wo.setCell ⟨g, init.length * 3, none⟩ (.string ⟨(x.1 ++ [sb[i]]).toArray⟩)).alloc (.cells #[.int .u8 (sb[i].toNat : Int)] 5)).drew = w7 at *
                have HA7 := hid hA7; have H27 := hid h27
                obtain ⟨d1, d1', e1, e1'⟩ := cell_lit2 h27.b1
                clear hA7 h27 hS hS2 k1 k2
                go_wp2
                obtain ⟨g1, g2, g3⟩ := (H27.out).col
                go_roundw
                case rel => exact ⟨i + 1, L, C + 1, out, init ++ [(x.1 ++ [sb[i]], x.2)], false, true, by omega, by go_num, rfl, rfl, rfl, rfl, (HA7.out).keep fun k hk _ => g2 k (by omega), (fun _ => by simp), HRT.out, g1, by rw [g3]; omega, by omega, by omega, by simp at hol ⊢; omega, len_tail _ _ _ _ HXL.out⟩
                case measure => simp [intOf]; omega
      · obtain rfl : i = sb.size := by omega
        rw [show sb.data.toList.drop sb.size = [] from List.drop_eq_nil_of_le (Nat.le_refl _), rt_nil] at hrt
        have HRT := hid hrt
        clear hrt
        by_cases hl0 : line = []
        · subst hl0
          have HE := hid (show linesR s = .ok out from by unfold linesR; rw [if_neg HLEN.out, ← HRT.out]; rfl)
          go_wp2
          refine bodyPost_ret (v := .tuple #[.slice po out.length co, .agg #[.int .i64 0, .int .i64 0], .int .i64 0]) (by simp [results, Try.results8, go_sem, c0, c0']) rfl ?_
          unfold LinesPost
          rw [HE.out]
          have hbl := ((H2.out.bel.setCell (p := ⟨w.heap.size, 0, none⟩) (Nat.le_refl _) (.int .i64 0)).setCell (p := ⟨w.heap.size, 1, none⟩) (Nat.le_refl _) (.int .i64 0))
          refine ⟨hbl, _, rfl, (HA.out.keep fun k hk _ => ?_).res (by simp at hol; omega) (by omega)⟩
          exact (Below.heap_setCell _ _ _ _ (by show k ≠ w.heap.size; omega)).trans (Below.heap_setCell _ _ _ _ (by show k ≠ w.heap.size; omega))
        · have hl1 : 0 < line.length := List.length_pos_iff.2 hl0
          have HE := hid (show linesR s = .ok (out ++ [line]) from by unfold linesR; rw [if_neg HLEN.out, ← HRT.out]; unfold addL; rw [if_neg hl0])
          clear hl0
          go_wp2_with (at_builtin; refine wpList_appG _ rfl (.tmp 103) (.tmp 105) 22 rfl (w.heap.size + 2) 29 (.slice none 0 0) 1 24 Try.underlying22 info_Words rfl (by decide) (.slice po out.length co) out.length us rfl (HUS.out.alloc _) ⟨wo.heap.size, 0, none⟩ 1 1 [.slice pl line.length cl] rfl rfl (RowR.lit wo [.slice pl line.length cl] 29 rfl) (by simp [Value.oneCell']) (by omega) (by unfold maxLen; omega) (by rw [World.size_alloc]; omega) ?_; intro v6 w6 ho6 hg6 hv6; obtain ⟨p6, c6, rfl⟩ := own_sliceG ho6; have hga := (World.grownBy_alloc wo _ _).trans hg6; have HN := hid (HA.out.line hg6 HUS.out ho6 hv6); have h26 := H2.out.app hga (fun k e => (HUS.out.lt k e).1); have H26 := hid h26; obtain ⟨d0, d0', e0, e0'⟩ := cell_lit2 h26.b0; clear ho6 hg6 hv6 hga h26)
          refine bodyPost_ret (v := .tuple #[.slice p6 (out.length + 1) c6, .agg #[.int .i64 0, .int .i64 0], .int .i64 0]) (by simp [results, Try.results8, go_sem, d0, d0']) rfl ?_
          unfold LinesPost
          rw [HE.out]
          have hbl := ((H26.out.bel.setCell (p := ⟨w.heap.size, 0, none⟩) (Nat.le_refl _) (.int .i64 0)).setCell (p := ⟨w.heap.size, 1, none⟩) (Nat.le_refl _) (.int .i64 0))
          refine ⟨hbl, _, rfl, (HN.out.keep fun k hk _ => ?_).res (by simp; omega) (by omega)⟩
          exact (Below.heap_setCell _ _ _ _ (by show k ≠ w.heap.size; omega)).trans (Below.heap_setCell _ _ _ _ (by show k ≠ w.heap.size; omega))

end Go.Proofs.Ytgldgkaigomceaa
