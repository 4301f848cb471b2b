/-
  The reference's Lines.
-/
import Derived.Test.YtfllhhgnflpagaaDoorDmY
import Derived.Test.YtfllhhgnflpagaaDoorAcc2
import Derived.Laws.Concat
namespace Go.Proofs.YtfllhhgnflpagaaDoor
set_option linter.unusedSimpArgs false
set_option linter.unusedVariables false
open Go.RowKit Go.Shelf
attribute [local go_sem] Oper.semAt_some

theorem info_str : (Tryd.prog.info? 9).map (fun i => (i.zero, i.size, i.bytes)) = some (some (.string ⟨#[]⟩), 1, 16) := by kernel_rfl
theorem info_strs : (Tryd.prog.info? 35).map (fun i => (i.zero, i.size, i.bytes)) = some (some (.slice none 0 0), 1, 24) := by kernel_rfl
theorem cat1 (t : Bs) (c : UInt8) : (⟨t.toArray⟩ : ByteArray) ++ ⟨#[c]⟩ = ⟨(t ++ [c]).toArray⟩ := by
  rw [ByteArray.mk_append_mk]
theorem ext1 (sb : ByteArray) (i : Nat) (h : i < sb.size) : sb.extract i (i + 1) = ⟨#[sb[i]]⟩ := by
  apply ByteArray.ext
  rw [ByteArray.data_extract]
  apply Array.ext'
  rw [Array.toList_extract]
  have h' : i < sb.data.toList.length := by rw [len_data]; exact h
  simp only [List.extract_eq_take_drop, List.take_succ_eq_append_getElem, Nat.add_sub_cancel_left]
  rw [List.drop_eq_getElem_cons h']
  rfl
/-- A slice of slices of strings. -/
def SLL (R : Nat → Prop) (w : World) (v : Value) (ls : List (List Bs)) : Prop :=
  ∃ vs, Sl R w v vs ∧ vs.length = ls.length ∧ ∀ i (h : i < ls.length) (h' : i < vs.length), Strs R w vs[i] ls[i]
theorem SLL.keep {R R' : Nat → Prop} {w w' : World} {v : Value} {xs : List (List Bs)} (h : SLL R w v xs) (hf : ∀ k, R k → R' k ∧ w'.heap[k]? = w.heap[k]?) : SLL R' w' v xs :=
  let ⟨vs, h1, h2, h3⟩ := h; ⟨vs, Sl.keep h1 hf, h2, fun i hi hi' => (h3 i hi hi').keep hf⟩
def RLinesPost (s : Bs) (w : World) (e : Ending) (w' : World) : Prop := ∃ cv, e = .returned cv ∧ SLL (fun k => w.heap.size ≤ k ∧ k < w'.heap.size) w' cv ((linesM s).map fields) ∧ Below w.heap.size w w'
abbrev LAcc (B : Nat) (W : World) (vo vl : Value) (out : List (List Bs)) (line : List Bs) : Prop := RAcc B 35 9 (fun _ => False) W vo vl (out.map (·.map sV)) (line.map sV)
theorem LAcc.word {B : Nat} {W W' : World} {vo vl vl' : Value} {out : List (List Bs)} {line : List Bs} {x : Bs} {o : Obj} (h : LAcc B W vo vl out line) (hg : (W.alloc o).grownBy W' vl.ownBlock)
    (ho : W'.ownsRow B 9 1 vl' (line.length + 1) (line.map sV ++ [.string ⟨x.toArray⟩])) (hv : vl'.ownBlock = vl.ownBlock ∨ vl'.ownBlock = some (W.alloc o).heap.size) : LAcc B W' vo vl' out (line ++ [x]) := by
  have := RAcc.push (x := sV x) h (fun k hk => hk.elim) hg (by rw [List.length_map]; exact ho) hv
  unfold LAcc
  rw [List.map_append]
  exact this
theorem LAcc.us {B : Nat} {W : World} {vo vl : Value} {out : List (List Bs)} {line : List Bs} (h : LAcc B W vo vl out line) : ∃ us : List Value, W.ownsRow B 35 1 vo out.length us := by
  obtain ⟨vs, h1, h2, h3⟩ := h.lines
  rw [List.length_map] at h1
  exact ⟨vs, h1⟩
theorem LAcc.own {B : Nat} {W : World} {vo vl : Value} {out : List (List Bs)} {line : List Bs} (h : LAcc B W vo vl out line) : W.ownsRow B 9 1 vl line.length (line.map sV) := by
  have := h.row
  rw [List.length_map] at this
  exact this
theorem LAcc.nl {B : Nat} {W W' : World} {vo vo' vl : Value} {out : List (List Bs)} {line : List Bs} {o : Obj} (h : LAcc B W vo vl out line) (hc : line.length ≤ 140737488355328) (hg : (W.alloc o).grownBy W' vo.ownBlock)
    {us : List Value} (hus : W.ownsRow B 35 1 vo out.length us) (ho : W'.ownsRow B 35 1 vo' (out.length + 1) (us ++ [vl])) (hv : vo'.ownBlock = vo.ownBlock ∨ vo'.ownBlock = some (W.alloc o).heap.size) : LAcc B W' vo' (.slice none 0 0) (out ++ [line]) [] := by
  have := RAcc.line h (fun k hk => hk.elim) (by rw [List.length_map]; exact hc) hg (us := us) (by rw [List.length_map]; exact hus) (by rw [List.length_map]; exact ho) hv
  unfold LAcc
  rw [List.map_append]
  exact this
theorem LAcc.sll {B : Nat} {W : World} {vo vl : Value} {out : List (List Bs)} {line : List Bs} (h : LAcc B W vo vl out line) (hl : out.length ≤ 140737488355328) : SLL (fun k => B ≤ k ∧ k < W.heap.size) W vo out := by
  obtain ⟨vs, h1, h2, h3⟩ := h.sl (by rw [List.length_map]; exact hl)
  refine ⟨vs, h1.keep fun k ⟨a, b, _⟩ => ⟨⟨a, b⟩, rfl⟩, by rw [h2, List.length_map], fun i hi hi' => ?_⟩
  have := h3 i (by rw [List.length_map]; exact hi) hi'
  rw [List.getElem_map] at this
  exact this.keep fun k ⟨a, b, _⟩ => ⟨⟨a, b⟩, rfl⟩
/-- What is left to scan. -/
def LSt (sb : ByteArray) (LS : List (List Bs)) (i : Nat) (nl : Bool) (out : List (List Bs)) (line : List Bs) (word : Bs) : Prop :=
  (i ≤ sb.size ∧ lr (sb.data.toList.drop i) nl out line word = LS ∧ (∀ q (hq : q < sb.size), i = q + 1 → nl = (sb[q] == 10)) ∧ (i = 0 → nl = true)) ∨ (i = sb.size + 1 ∧ out = LS)
theorem lr_cons (c : UInt8) (r : Bs) (nl : Bool) (out : List (List Bs)) (line : List Bs) (word : Bs) : lr (c :: r) nl out line word = if c = 10 then lr r true (out ++ [flushB word line]) [] [] else if isBl c then lr r false out (flushB word line) [] else lr r false out line (word ++ [c]) := rfl
theorem drop_byte (sb : ByteArray) (i : Nat) (h : i < sb.size) : sb.data.toList.drop i = sb[i] :: sb.data.toList.drop (i + 1) := by
  rw [List.drop_eq_getElem_cons (by rw [len_data]; exact h), byte_at sb i h]
theorem drop_all (sb : ByteArray) : sb.data.toList.drop sb.size = [] := List.drop_eq_nil_of_le (Nat.le_of_eq (len_data sb))
theorem LSt.step {sb : ByteArray} {LS : List (List Bs)} {i : Nat} {nl : Bool} {out : List (List Bs)} {line : List Bs} {word : Bs} (h : LSt sb LS i nl out line word) (hi : i < sb.size) :
    (if sb[i] = 10 then LSt sb LS (i + 1) true (out ++ [flushB word line]) [] [] else if isBl sb[i] then LSt sb LS (i + 1) false out (flushB word line) [] else LSt sb LS (i + 1) false out line (word ++ [sb[i]])) := by
  rcases h with ⟨h1, h2, h3, h4⟩ | ⟨h1, h2⟩
  · rw [drop_byte sb i hi, lr_cons] at h2
    split
    · rename_i hc
      rw [if_pos hc] at h2
      exact .inl ⟨by omega, h2, (fun q hq e => by obtain rfl : q = i := by omega
                                                  simp [hc]), fun e => by omega⟩
    · rename_i hc
      rw [if_neg hc] at h2
      split
      · rename_i hb
        rw [if_pos hb] at h2
        exact .inl ⟨by omega, h2, (fun q hq e => by obtain rfl : q = i := by omega
                                                    simp [hc]), fun e => by omega⟩
      · rename_i hb
        rw [if_neg hb] at h2
        exact .inl ⟨by omega, h2, (fun q hq e => by obtain rfl : q = i := by omega
                                                    simp [hc]), fun e => by omega⟩
  · omega
theorem flush_ne2 {w : Bs} (h : ¬ w = []) (l : List Bs) : flushB w l = l ++ [w] := by unfold flushB; rw [if_neg h]
theorem isBl_iff (c : UInt8) : isBl c = true ↔ c.toNat = 32 ∨ c.toNat = 9 := by
  unfold isBl
  rw [Bool.or_eq_true, beq_iff_eq, beq_iff_eq]
  constructor
  · rintro (rfl | rfl) <;> simp
  · rintro (h | h)
    · exact .inl (UInt8.toNat_inj.1 h)
    · exact .inr (UInt8.toNat_inj.1 h)

set_option maxRecDepth 100000 in
set_option maxHeartbeats 4000000 in
theorem rlines_any (s : Bs) (w : World) (hs : s.length ≤ 65536) : Calls Tryd.prog 30 #[.string ⟨s.toArray⟩] w (RLinesPost s w) := by
  obtain ⟨sb, hsb⟩ : ∃ sb : ByteArray, (⟨s.toArray⟩ : ByteArray) = sb := ⟨_, rfl⟩
  have hll : s = sb.data.toList := by rw [← hsb]
  have hsz : sb.size ≤ 65536 := by rw [← hsb]; simpa [ByteArray.size] using hs
  obtain ⟨LS, hLS⟩ : ∃ LS, (linesM s).map fields = LS := ⟨_, rfl⟩
  have hst : LSt sb LS 0 true [] [] [] := .inl ⟨Nat.zero_le _, by rw [List.drop_zero, ← hll, lr_lines]; exact hLS, (fun q hq e => by omega), fun _ => rfl⟩
  rw [hsb]
  have HST := hid hst; have HLS := hid hLS
  clear hst hll hs hLS hsb
  go_enter Tryd.func30, Tryd.ntmps30
  go_wp2_with fail
  go_loopw [3, 4, 5, 6] (fun vo vl vw iv wr => ∃ (i : Nat) (nl : Bool) (out : List (List Bs)) (line : List Bs) (word : Bs), i ≤ sb.size + 1 ∧ iv = .int .i64 (i : Int) ∧ vw = .string ⟨word.toArray⟩ ∧ LAcc w.heap.size wr vo vl out line ∧ Below w.heap.size w wr ∧ word.length ≤ i ∧ out.length ≤ i ∧ line.length ≤ i ∧ LSt sb LS i nl out line word) (fun _ _ _ iv _ => sb.size + 1 - (intOf iv).toNat)
  case atStart => exact ⟨0, true, [], [], [], Nat.zero_le _, rfl, rfl, RAcc.nil _ _ _ _ _, Below.refl _ _, by simp, by simp, by simp, HST.out⟩
  case round =>
    obtain ⟨i, nl, out, line, word, hi, rfl, rfl, ha, hb, hwl, hol, hnl, hst⟩ := hrel
    obtain ⟨wo, rfl⟩ : ∃ wo : World, wo = wr := ⟨_, rfl⟩
    obtain ⟨pl, kl, rfl⟩ := own_sliceG ha.own
    obtain ⟨us, hus⟩ := ha.us
    obtain ⟨po, ko, rfl⟩ := own_sliceG hus
    have hown := ha.own
    obtain ⟨NW, hNW⟩ : ∃ n, word.length = n := ⟨_, rfl⟩
    obtain ⟨NL, hNL⟩ : ∃ n, line.length = n := ⟨_, rfl⟩
    obtain ⟨NO, hNO⟩ : ∃ n, out.length = n := ⟨_, rfl⟩
    rw [hNL] at ha hown hnl ⊢
    rw [hNO] at ha hus hol ⊢
    have HA := hid ha; have HB := hid hb; have HUS := hid hus; have HOWN := hid hown; have HWL := hid hwl
    have HNL := hid hNL; have HNO := hid hNO
    rw [hNW] at hwl
    have HNW := hid hNW
    have hbs := hb.size
    clear ha hb hus hown hNL hNO hNW HST
    by_cases hlt : i < sb.size
    · have g1 : decide ((i : Int) ≤ (sb.size : Int)) = true := by simp; omega
      have g2 : decide ((i : Int) < (sb.size : Int)) = true := by simp; omega
      have hstep := hst.step hlt
      obtain ⟨u, hu⟩ : ∃ u : Nat, sb[i].toNat = u := ⟨_, rfl⟩
      by_cases h10 : u = 10
      · have hc : sb[i] = 10 := UInt8.toNat_inj.1 (by rw [hu, h10]; rfl)
        rw [if_pos hc] at hstep
        have HS := hid hstep
        clear hstep hst hc
        subst h10
        have f1 : ((10 : Int) != 32) = true := by decide
        by_cases hw : word = []
        · subst hw
          go_wp2_with (at_builtin; refine wpList_appG _ rfl (.tmp 75) (.tmp 77) 59 rfl w.heap.size 35 (.slice none 0 0) 1 24 Tryd.underlying59 info_strs rfl (by decide) (.slice po NO ko) NO us rfl (HUS.out.alloc _) ⟨wo.heap.size, 0, none⟩ 1 1 [.slice pl NL kl] rfl rfl (RowR.lit (R := fun _ => True) wo [.slice pl NL kl] 35 trivial) (by simp [Value.oneCell']) (by omega) (by unfold maxLen; omega) (by rw [World.size_alloc]; omega) ?_; intro v5 w5 ho5 hg5 hv5; have HX5 := hid (LAcc.nl HA.out (by have := HNL.out; omega) hg5 (by rw [HNO.out]; exact HUS.out) (by rw [HNO.out]; exact ho5) hv5); have HG5 := hid hg5; clear ho5 hg5 hv5)
          go_roundw
          case rel => exact ⟨i + 1, true, out ++ [line], [], [], by omega, by go_num, rfl, HX5.out, (HB.out.alloc HB.out.size _).grown HG5.out (by rw [World.size_alloc]; omega) (fun k hk => (HUS.out.lt k hk).1), by simp, (by have := HNO.out; simp only [List.length_append, List.length_cons, List.length_nil]; omega), by simp, HS.out⟩
          case measure => (first | (simp [intOf] <;> omega) | (clear g4 g5; simp only [intOf]; omega))
        · have hw1 : ¬ word = [] := hw
          have hw2 : (word == []) = false := by simp [hw]
          have hw3 : word.isEmpty = false := by simp [hw]
          have hw4 : (word != []) = true := by simp [hw]
          clear hw
          go_wp2_with (first | (at_builtin; refine wpList_appG _ rfl (.tmp 44) (.tmp 46) 35 rfl w.heap.size 9 (.string ⟨#[]⟩) 1 16 Tryd.underlying35 info_str rfl (by decide) (.slice pl NL kl) NL (line.map sV) rfl (HOWN.out.alloc _) ⟨wo.heap.size, 0, none⟩ 1 1 [.string ⟨word.toArray⟩] rfl rfl (RowR.lit (R := fun _ => True) wo [.string ⟨word.toArray⟩] 9 trivial) (by simp [Value.oneCell']) (by omega) (by unfold maxLen; omega) (by rw [World.size_alloc]; omega) ?_; intro v4 w4 ho4 hg4 hv4; obtain ⟨p4, k4, rfl⟩ := own_sliceG ho4; have HX4 := hid (LAcc.word (x := word) HA.out hg4 (by rw [HNL.out]; exact ho4) hv4); have HG4 := hid hg4; clear ho4 hg4 hv4) | (at_builtin; obtain ⟨us4, hus4⟩ := HX4.out.us; refine wpList_appG _ rfl (.tmp 75) (.tmp 77) 59 rfl w.heap.size 35 (.slice none 0 0) 1 24 Tryd.underlying59 info_strs rfl (by decide) (.slice po NO ko) NO us4 rfl (by rw [HNO.out] at hus4; exact hus4.alloc _) ⟨w4.heap.size, 0, none⟩ 1 1 [.slice p4 (NL + 1) k4] rfl rfl (RowR.lit (R := fun _ => True) w4 [.slice p4 (NL + 1) k4] 35 trivial) (by simp [Value.oneCell']) (by omega) (by unfold maxLen; omega) (by have := HG4.out.size; rw [World.size_alloc] at this ⊢; omega) ?_; intro v5 w5 ho5 hg5 hv5; have HX5 := hid (LAcc.nl HX4.out (by have := HNL.out; simp only [List.length_append, List.length_cons, List.length_nil]; omega) hg5 hus4 (by rw [HNO.out]; exact ho5) hv5); have HG5 := hid hg5; have HU4 := hid hus4; clear ho5 hg5 hv5 hus4))
          have HB4 := hid ((HB.out.alloc HB.out.size (.cells #[.string ⟨word.toArray⟩] 9)).grown HG4.out (by rw [World.size_alloc]; omega) (fun k hk => (HOWN.out.lt k hk).1))
          go_roundw
          case rel => exact ⟨i + 1, true, out ++ [line ++ [word]], [], [], by omega, by go_num, rfl, HX5.out, (HB4.out.alloc HB4.out.size _).grown HG5.out (by have := HB4.out.size; rw [World.size_alloc]; omega) (fun k hk => (HU4.out.lt k hk).1), by simp, (by have := HNO.out; simp only [List.length_append, List.length_cons, List.length_nil]; omega), by simp, (by have h := HS.out; rw [flush_ne2 hw1] at h; exact h)⟩
          case measure => (first | (simp [intOf] <;> omega) | (clear g4 g5; simp only [intOf]; omega))
      have hc : ¬ sb[i] = 10 := fun e => h10 (by rw [← hu, e]; rfl)
      rw [if_neg hc] at hstep
      have f3 : ((u : Int) != 10) = true := by rw [bne_iff_ne]; omega
      have f4 : ((u : Int) == 10) = false := by rw [beq_eq_false_iff_ne]; omega
      by_cases hbl : u = 32 ∨ u = 9
      · rw [if_pos ((isBl_iff _).2 (by rw [hu]; exact hbl))] at hstep
        have HS := hid hstep
        clear hstep hst hc h10
        rcases hbl with rfl | rfl
        · by_cases hw : word = []
          · subst hw
            go_wp2_with fail
            go_roundw
            case rel => exact ⟨i + 1, false, out, line, [], by omega, by go_num, rfl, (by have h := HA.out; exact h), HB.out, by simp, (by have := HNO.out; omega), (by have := HNL.out; omega), HS.out⟩
            case measure => (first | (simp [intOf] <;> omega) | (clear g4 g5; simp only [intOf]; omega))
          · have hw1 : ¬ word = [] := hw
            have hw2 : (word == []) = false := by simp [hw]
            have hw3 : word.isEmpty = false := by simp [hw]
            have hw4 : (word != []) = true := by simp [hw]
            clear hw
            go_wp2_with (at_builtin; refine wpList_appG _ rfl (.tmp 44) (.tmp 46) 35 rfl w.heap.size 9 (.string ⟨#[]⟩) 1 16 Tryd.underlying35 info_str rfl (by decide) (.slice pl NL kl) NL (line.map sV) rfl (HOWN.out.alloc _) ⟨wo.heap.size, 0, none⟩ 1 1 [.string ⟨word.toArray⟩] rfl rfl (RowR.lit (R := fun _ => True) wo [.string ⟨word.toArray⟩] 9 trivial) (by simp [Value.oneCell']) (by omega) (by unfold maxLen; omega) (by rw [World.size_alloc]; omega) ?_; intro v4 w4 ho4 hg4 hv4; obtain ⟨p4, k4, rfl⟩ := own_sliceG ho4; have HX4 := hid (LAcc.word (x := word) HA.out hg4 (by rw [HNL.out]; exact ho4) hv4); have HG4 := hid hg4; clear ho4 hg4 hv4)
            go_roundw
            case rel => exact ⟨i + 1, false, out, line ++ [word], [], by omega, by go_num, rfl, HX4.out, (HB.out.alloc HB.out.size _).grown HG4.out (by rw [World.size_alloc]; omega) (fun k hk => (HOWN.out.lt k hk).1), by simp, (by have := HNO.out; omega), (by have := HNL.out; simp only [List.length_append, List.length_cons, List.length_nil]; omega), (by have h := HS.out; rw [flush_ne2 hw1] at h; exact h)⟩
            case measure => (first | (simp [intOf] <;> omega) | (clear g4 g5; simp only [intOf]; omega))
        · by_cases hw : word = []
          · subst hw
            go_wp2_with fail
            go_roundw
            case rel => exact ⟨i + 1, false, out, line, [], by omega, by go_num, rfl, (by have h := HA.out; exact h), HB.out, by simp, (by have := HNO.out; omega), (by have := HNL.out; omega), HS.out⟩
            case measure => (first | (simp [intOf] <;> omega) | (clear g4 g5; simp only [intOf]; omega))
          · have hw1 : ¬ word = [] := hw
            have hw2 : (word == []) = false := by simp [hw]
            have hw3 : word.isEmpty = false := by simp [hw]
            have hw4 : (word != []) = true := by simp [hw]
            clear hw
            go_wp2_with (at_builtin; refine wpList_appG _ rfl (.tmp 44) (.tmp 46) 35 rfl w.heap.size 9 (.string ⟨#[]⟩) 1 16 Tryd.underlying35 info_str rfl (by decide) (.slice pl NL kl) NL (line.map sV) rfl (HOWN.out.alloc _) ⟨wo.heap.size, 0, none⟩ 1 1 [.string ⟨word.toArray⟩] rfl rfl (RowR.lit (R := fun _ => True) wo [.string ⟨word.toArray⟩] 9 trivial) (by simp [Value.oneCell']) (by omega) (by unfold maxLen; omega) (by rw [World.size_alloc]; omega) ?_; intro v4 w4 ho4 hg4 hv4; obtain ⟨p4, k4, rfl⟩ := own_sliceG ho4; have HX4 := hid (LAcc.word (x := word) HA.out hg4 (by rw [HNL.out]; exact ho4) hv4); have HG4 := hid hg4; clear ho4 hg4 hv4)
            go_roundw
            case rel => exact ⟨i + 1, false, out, line ++ [word], [], by omega, by go_num, rfl, HX4.out, (HB.out.alloc HB.out.size _).grown HG4.out (by rw [World.size_alloc]; omega) (fun k hk => (HOWN.out.lt k hk).1), by simp, (by have := HNO.out; omega), (by have := HNL.out; simp only [List.length_append, List.length_cons, List.length_nil]; omega), (by have h := HS.out; rw [flush_ne2 hw1] at h; exact h)⟩
            case measure => (first | (simp [intOf] <;> omega) | (clear g4 g5; simp only [intOf]; omega))
      · rw [if_neg (fun e => hbl (by rw [← hu]; exact (isBl_iff _).1 e))] at hstep
        have HS := hid hstep
        have f1 : ((u : Int) != 32) = true := by rw [bne_iff_ne]; omega
        have f2 : ((u : Int) != 9) = true := by rw [bne_iff_ne]; omega
        clear hstep hst hc hbl h10
        have hext := ext1 sb i hlt
        have hcat := cat1 word sb[i]
        have hy : ¬ 9223372036854775807 < word.length + 1 := by have := HWL.out; omega
        go_wp2_with fail
        go_roundw
        case rel => exact ⟨i + 1, false, out, line, word ++ [sb[i]], by omega, by go_num, (by first | rfl | (rw [hcat])), (by have h := HA.out; exact h), HB.out, (by have := HNW.out; simp only [List.length_append, List.length_cons, List.length_nil]; omega), (by have := HNO.out; omega), (by have := HNL.out; omega), HS.out⟩
        case measure => (first | (simp [intOf] <;> omega) | (clear g4 g5; simp only [intOf]; omega))
    · by_cases hend : i = sb.size
      · subst hend
        have g1 : decide (((sb.size : Nat) : Int) ≤ (sb.size : Int)) = true := by simp
        have g2 : decide (((sb.size : Nat) : Int) < (sb.size : Int)) = false := by simp
        have g3 : (((sb.size : Nat) : Int) == (sb.size : Int)) = true := by simp
        have hst2 : lr [] nl out line word = LS ∧ (∀ q (hq : q < sb.size), sb.size = q + 1 → nl = (sb[q] == 10)) ∧ (sb.size = 0 → nl = true) := by
          rcases hst with ⟨_, h2, h3, h4⟩ | ⟨h1, _⟩
          · rw [drop_all] at h2; exact ⟨h2, h3, h4⟩
          · omega
        obtain ⟨hst3, hst4, hst6⟩ := hst2
        have hst5 : (if nl then out else out ++ [flushB word line]) = LS := hst3
        by_cases hz : sb.size = 0
        · have hn := hst6 hz
          subst hn
          obtain rfl : word = [] := List.length_eq_zero_iff.1 (by have := HWL.out; omega)
          have HE := hid (show out = LS from hst5)
          have g4 : decide (0 < (sb.size : Int)) = false := by rw [decide_eq_false_iff_not]; omega
          have g5 : ¬ 0 < sb.size := by omega
          clear hst hst3 hst4 hst5 hst6
          go_wp2_with fail
          go_roundw
          case rel => exact ⟨sb.size + 1, true, out, line, [], by omega, by go_num, rfl, (by have h := HA.out; exact h), HB.out, by simp, (by have := HNO.out; omega), (by have := HNL.out; omega), .inr ⟨rfl, HE.out⟩⟩
          case measure => (first | (simp [intOf] <;> omega) | (clear g4 g5; simp only [intOf]; omega))
        · obtain ⟨q, hq⟩ : ∃ q, sb.size = q + 1 := ⟨sb.size - 1, by omega⟩
          have hqs : q < sb.size := by omega
          have hnl2 := hst4 q hqs hq
          have hq1 : (sb.size : Int) - 1 = (q : Int) := by omega
          have g4 : decide (0 < (sb.size : Int)) = true := by simp; omega
          have g5 : 0 < sb.size := by omega
          obtain ⟨u, hu⟩ : ∃ u : Nat, sb[q].toNat = u := ⟨_, rfl⟩
          clear hst hst3 hst4 hst6 hz hq
          cases nl with
          | true =>
            have hc : sb[q] = 10 := by simpa using hnl2
            have f1 : ((u : Int) != 10) = false := by rw [← hu, hc]; rfl
            have HE := hid (show out = LS from hst5)
            clear hc hst5 hnl2
            by_cases hw : word = []
            · subst hw
              go_wp2_with fail
              go_roundw
              case rel => exact ⟨sb.size + 1, true, out, line, [], by omega, by go_num, rfl, (by have h := HA.out; exact h), HB.out, by simp, (by have := HNO.out; omega), (by have := HNL.out; omega), .inr ⟨rfl, HE.out⟩⟩
              case measure => (first | (simp [intOf] <;> omega) | (clear g4 g5; simp only [intOf]; omega))
            · have hw1 : ¬ word = [] := hw
              have hw2 : (word == []) = false := by simp [hw]
              have hw3 : word.isEmpty = false := by simp [hw]
              have hw4 : (word != []) = true := by simp [hw]
              clear hw
              go_wp2_with (at_builtin; refine wpList_appG _ rfl (.tmp 44) (.tmp 46) 35 rfl w.heap.size 9 (.string ⟨#[]⟩) 1 16 Tryd.underlying35 info_str rfl (by decide) (.slice pl NL kl) NL (line.map sV) rfl (HOWN.out.alloc _) ⟨wo.heap.size, 0, none⟩ 1 1 [.string ⟨word.toArray⟩] rfl rfl (RowR.lit (R := fun _ => True) wo [.string ⟨word.toArray⟩] 9 trivial) (by simp [Value.oneCell']) (by omega) (by unfold maxLen; omega) (by rw [World.size_alloc]; omega) ?_; intro v4 w4 ho4 hg4 hv4; obtain ⟨p4, k4, rfl⟩ := own_sliceG ho4; have HX4 := hid (LAcc.word (x := word) HA.out hg4 (by rw [HNL.out]; exact ho4) hv4); have HG4 := hid hg4; clear ho4 hg4 hv4)
              go_roundw
              case rel => exact ⟨sb.size + 1, true, out, line ++ [word], [], by omega, by go_num, rfl, HX4.out, (HB.out.alloc HB.out.size _).grown HG4.out (by rw [World.size_alloc]; omega) (fun k hk => (HOWN.out.lt k hk).1), by simp, (by have := HNO.out; omega), (by have := HNL.out; simp only [List.length_append, List.length_cons, List.length_nil]; omega), .inr ⟨rfl, HE.out⟩⟩
              case measure => (first | (simp [intOf] <;> omega) | (clear g4 g5; simp only [intOf]; omega))
          | false =>
            have hc : sb[q].toNat ≠ 10 := fun e => by
              have e2 : sb[q] = 10 := UInt8.toNat_inj.1 (by rw [e]; rfl)
              rw [e2] at hnl2; cases hnl2
            have f1 : ((u : Int) != 10) = true := by rw [bne_iff_ne]; omega
            have HE := hid (show out ++ [flushB word line] = LS from hst5)
            clear hc hst5 hnl2
            by_cases hw : word = []
            · subst hw
              go_wp2_with (at_builtin; refine wpList_appG _ rfl (.tmp 75) (.tmp 77) 59 rfl w.heap.size 35 (.slice none 0 0) 1 24 Tryd.underlying59 info_strs rfl (by decide) (.slice po NO ko) NO us rfl (HUS.out.alloc _) ⟨wo.heap.size, 0, none⟩ 1 1 [.slice pl NL kl] rfl rfl (RowR.lit (R := fun _ => True) wo [.slice pl NL kl] 35 trivial) (by simp [Value.oneCell']) (by omega) (by unfold maxLen; omega) (by rw [World.size_alloc]; omega) ?_; intro v5 w5 ho5 hg5 hv5; have HX5 := hid (LAcc.nl HA.out (by have := HNL.out; omega) hg5 (by rw [HNO.out]; exact HUS.out) (by rw [HNO.out]; exact ho5) hv5); have HG5 := hid hg5; clear ho5 hg5 hv5)
              go_roundw
              case rel => exact ⟨sb.size + 1, true, out ++ [line], [], [], by omega, by go_num, rfl, HX5.out, (HB.out.alloc HB.out.size _).grown HG5.out (by rw [World.size_alloc]; omega) (fun k hk => (HUS.out.lt k hk).1), by simp, (by have := HNO.out; simp only [List.length_append, List.length_cons, List.length_nil]; omega), by simp, .inr ⟨rfl, HE.out⟩⟩
              case measure => (first | (simp [intOf] <;> omega) | (clear g4 g5; simp only [intOf]; omega))
            · have hw1 : ¬ word = [] := hw
              have hw2 : (word == []) = false := by simp [hw]
              have hw3 : word.isEmpty = false := by simp [hw]
              have hw4 : (word != []) = true := by simp [hw]
              clear hw
              go_wp2_with (first | (at_builtin; refine wpList_appG _ rfl (.tmp 44) (.tmp 46) 35 rfl w.heap.size 9 (.string ⟨#[]⟩) 1 16 Tryd.underlying35 info_str rfl (by decide) (.slice pl NL kl) NL (line.map sV) rfl (HOWN.out.alloc _) ⟨wo.heap.size, 0, none⟩ 1 1 [.string ⟨word.toArray⟩] rfl rfl (RowR.lit (R := fun _ => True) wo [.string ⟨word.toArray⟩] 9 trivial) (by simp [Value.oneCell']) (by omega) (by unfold maxLen; omega) (by rw [World.size_alloc]; omega) ?_; intro v4 w4 ho4 hg4 hv4; obtain ⟨p4, k4, rfl⟩ := own_sliceG ho4; have HX4 := hid (LAcc.word (x := word) HA.out hg4 (by rw [HNL.out]; exact ho4) hv4); have HG4 := hid hg4; clear ho4 hg4 hv4) | (at_builtin; obtain ⟨us4, hus4⟩ := HX4.out.us; refine wpList_appG _ rfl (.tmp 75) (.tmp 77) 59 rfl w.heap.size 35 (.slice none 0 0) 1 24 Tryd.underlying59 info_strs rfl (by decide) (.slice po NO ko) NO us4 rfl (by rw [HNO.out] at hus4; exact hus4.alloc _) ⟨w4.heap.size, 0, none⟩ 1 1 [.slice p4 (NL + 1) k4] rfl rfl (RowR.lit (R := fun _ => True) w4 [.slice p4 (NL + 1) k4] 35 trivial) (by simp [Value.oneCell']) (by omega) (by unfold maxLen; omega) (by have := HG4.out.size; rw [World.size_alloc] at this ⊢; omega) ?_; intro v5 w5 ho5 hg5 hv5; have HX5 := hid (LAcc.nl HX4.out (by have := HNL.out; simp only [List.length_append, List.length_cons, List.length_nil]; omega) hg5 hus4 (by rw [HNO.out]; exact ho5) hv5); have HG5 := hid hg5; have HU4 := hid hus4; clear ho5 hg5 hv5 hus4))
              have HB4 := hid ((HB.out.alloc HB.out.size (.cells #[.string ⟨word.toArray⟩] 9)).grown HG4.out (by rw [World.size_alloc]; omega) (fun k hk => (HOWN.out.lt k hk).1))
              go_roundw
              case rel => exact ⟨sb.size + 1, true, out ++ [line ++ [word]], [], [], by omega, by go_num, rfl, HX5.out, (HB4.out.alloc HB4.out.size _).grown HG5.out (by have := HB4.out.size; rw [World.size_alloc]; omega) (fun k hk => (HU4.out.lt k hk).1), by simp, (by have := HNO.out; simp only [List.length_append, List.length_cons, List.length_nil]; omega), by simp, .inr ⟨rfl, (by have h := HE.out; rw [flush_ne2 hw1] at h; exact h)⟩⟩
              case measure => (first | (simp [intOf] <;> omega) | (clear g4 g5; simp only [intOf]; omega))
      · obtain rfl : i = sb.size + 1 := by omega
        have g1 : decide ((((sb.size + 1 : Nat)) : Int) ≤ (sb.size : Int)) = false := by simp; omega
        have HF : out = LS := by
          rcases hst with ⟨h1, _⟩ | ⟨_, h2⟩
          · omega
          · exact h2
        subst HF
        clear hst
        go_wp2_with fail
        go_ret
        refine ⟨_, rfl, ?_, HB.out⟩
        rw [HLS.out]
        exact HA.out.sll (by have := HNO.out; omega)

end Go.Proofs.YtfllhhgnflpagaaDoor
