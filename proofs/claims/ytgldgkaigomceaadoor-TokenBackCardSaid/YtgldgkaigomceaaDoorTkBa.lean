/-
  The walk of TokenBack.
-/
import Derived.Test.YtgldgkaigomceaaDoorTkT
import Derived.Test.YtgldgkaigomceaaDoorTkJ
import Derived.Test.YtgldgkaigomceaaDoorTkBd
namespace Go.Proofs.YtgldgkaigomceaaDoor
set_option linter.unusedSimpArgs false
set_option linter.unusedVariables false
open Go.RowKit Go.Shelf
attribute [local go_sem] Oper.semAt_some

theorem split_any (l : Bs) (m : Int) (w : World) (hs : l.length ≤ 65536) (hm : w.cell? ⟨1, 0, none⟩ = some (.int .i64 m)) :
    Calls Tryd.prog 9 #[.string ⟨l.toArray⟩, .string ⟨#[10]⟩] w fun e w' => e = .returned (.slice (some ⟨w.heap.size, 0, none⟩) (rowsNL l).length (rowsNL l).length) ∧ w' = w.alloc (.cells ((rowsNL l).map strV).toArray 9) := by
  have hk : (⟨#[10]⟩ : ByteArray).data.toList = [10] := rfl
  have hd := Lib.splitB_data ⟨#[10]⟩ 0 (Lib.countB ⟨l.toArray⟩ ⟨#[10]⟩) ⟨l.toArray⟩
  have hc : Lib.countB ⟨l.toArray⟩ ⟨#[10]⟩ = l.count 10 := Lib.count_one 10 l
  have hlen := Lib.splitB_all ⟨#[10]⟩ (by decide) 0 (Lib.countB ⟨l.toArray⟩ ⟨#[10]⟩) ⟨l.toArray⟩ rfl
  have hr : Lib.splitK [10] 0 (Lib.countB ⟨l.toArray⟩ ⟨#[10]⟩) l = rowsNL l := splitK_nl _ l (by rw [hc]; exact Nat.le_refl _)
  have hd2 : (Lib.splitB ⟨#[10]⟩ 0 (Lib.countB ⟨l.toArray⟩ ⟨#[10]⟩) ⟨l.toArray⟩).map (·.data.toList) = rowsNL l := hd.trans hr
  have hv : (Lib.splitB ⟨#[10]⟩ 0 (Lib.countB ⟨l.toArray⟩ ⟨#[10]⟩) ⟨l.toArray⟩).map Value.string = (rowsNL l).map strV := by
    rw [← hd2, List.map_map]; rfl
  have hl2 : (rowsNL l).length = Lib.countB ⟨l.toArray⟩ ⟨#[10]⟩ + 1 := by rw [← hd2, List.length_map, hlen]
  have := Tryd.strings_Split ⟨l.toArray⟩ ⟨#[10]⟩ m w (by rw [size_mk]; omega) hm (by decide)
  rw [hv] at this
  rw [hl2]
  exact this
theorem WLL.opn {R : Nat → Prop} {w : World} {v : Value} {o : List (List Wd)} (h : WLL R w v o) : ∃ p c vs, v = .slice p o.length c ∧ o.length ≤ c ∧ c ≤ maxLen ∧ RowR R w p vs ∧ vs.length = o.length ∧ ∀ i (h : i < o.length) (h' : i < vs.length), Wds R w vs[i] o[i] := by
  obtain ⟨vs, ⟨p, c, e, h1, h2, h3, hr⟩, hl, hx⟩ := h
  exact ⟨p, c, vs, by rw [← hl]; exact e, by omega, h2, hr, hl, hx⟩
/-- The last position is ahead of all words from row i on. -/
def LastO (o : List (List Wd)) (i : Nat) (pl : Int) : Prop := ∀ i' (h : i' < o.length) k (hk : k < o[i'].length), i ≤ i' → pl < (o[i'][k].2.1 : Int)
/-- The last position, ahead of word k of row i. -/
def LastI (o : List (List Wd)) (i k : Nat) (pl pc : Int) : Prop := (k = 0 → LastO o i pl) ∧ (0 < k → ∀ (h : i < o.length) k' (hk : k' < o[i].length), pl = (o[i][k'].2.1 : Int) ∧ (k ≤ k' → pc < (o[i][k'].2.2 : Int)))
theorem LastI.next {words : List Bs} {per : Nat} {rows : List Bs} {o : List (List Wd)} {i k : Nat} (h : BackOk words per rows o) (hi : i < o.length) (hk : k < o[i].length) : LastI o i (k + 1) (o[i][k].2.1 : Int) (o[i][k].2.2 : Int) := by
  refine ⟨fun e => by omega, fun _ _ k' hk' => ⟨?_, fun hkk => ?_⟩⟩
  · obtain ⟨L, _, hL⟩ := h.line i hi
    rw [hL k hk, hL k' hk']
  · have := h.inc i hi k k' hk hk' (by omega); omega
theorem LastI.row {words : List Bs} {per : Nat} {rows : List Bs} {o : List (List Wd)} {i k : Nat} {pl pc : Int} (h : BackOk words per rows o) (hi : i < o.length) (hk : k = o[i].length) (hp : LastI o i k pl pc) : LastO o (i + 1) pl := by
  have h0 := h.ne i hi
  intro i' hi' k' hk' hii
  have := (hp.2 (by omega) hi 0 h0).1
  rw [this]
  have := h.up i i' hi hi' 0 k' h0 hk' (by omega)
  omega
/-- What the round's tests say of the position. -/
theorem LastI.tests {words : List Bs} {per : Nat} {rows : List Bs} {o : List (List Wd)} {i k : Nat} {pl pc : Int} (h : BackOk words per rows o) (hi : i < o.length) (hk : k < o[i].length) (hp : LastI o i k pl pc) : (pl < (o[i][k].2.1 : Int) ∨ (0 < k ∧ pl = (o[i][k].2.1 : Int) ∧ pc < (o[i][k].2.2 : Int))) := by
  rcases Nat.eq_zero_or_pos k with e | e
  · exact .inl (hp.1 e i hi k hk (Nat.le_refl _))
  · exact .inr ⟨e, (hp.2 e hi k hk).1, (hp.2 e hi k hk).2 (Nat.le_refl _)⟩
theorem rows_len : ∀ (s : Bs), ∀ r ∈ rowsNL s, r.length ≤ s.length := by
  intro s
  induction h : s.length using Nat.strongRecOn generalizing s with
  | _ n ih =>
    intro r hr
    rw [rowsNL] at hr
    have hle := cutNL_le s
    rcases List.mem_cons.1 hr with rfl | hr
    · omega
    · split at hr
      · rename_i hm
        have hlt := cutNL_len s hm
        have := ih (cutNL s).2.1.length (by omega) (cutNL s).2.1 rfl r hr
        omega
      · cases hr
theorem cell_lit3 {W : World} {k : Nat} {v u x : Value} {t : TypeId} (h : W.heap[k]? = some (.cells #[v, u, x] t (0, 0))) : W.cell? ⟨k, 0, none⟩ = some v ∧ W.cell? ⟨k, 1, none⟩ = some u ∧ W.cell? ⟨k, 2, none⟩ = some x ∧ True :=
  ⟨by rw [cell_of_row W k 0 _ _ _ h]; rfl, by rw [cell_of_row W k 1 _ _ _ h]; rfl, by rw [cell_of_row W k 2 _ _ _ h]; rfl, trivial⟩
theorem rows_count : ∀ (n : Nat) (s : Bs), s.length ≤ n → (rowsNL s).length ≤ n + 1
  | 0, s, h => by
    obtain rfl : s = [] := List.eq_nil_of_length_eq_zero (by omega)
    rw [rowsNL]; simp [cutNL]
  | n + 1, s, h => by
    rw [rowsNL, List.length_cons]
    split
    · rename_i hm
      have hlt := cutNL_len s hm
      have := rows_count n (cutNL s).2.1 (by omega)
      omega
    · simp
theorem row_at (j r x per : Nat) : (x * per + j) % per = j % per := by rw [Nat.mul_comm]; exact Nat.mul_add_mod _ _ _

set_option maxRecDepth 100000 in
set_option maxHeartbeats 8000000 in
theorem back_walk (b : Bs) (v : Value) (a : Int) (noise : Bs) (vn : Value) (m : Int) (w : World) (hb : Bys (· < w.heap.size) w v b) (ha : -9223372036854775808 ≤ a ∧ a ≤ 9223372036854775807) (hn : Bys (· < w.heap.size) w vn noise) (hm : w.cell? ⟨1, 0, none⟩ = some (.int .i64 m)) :
    Calls Tryd.prog 3 #[v, .int .i64 a, vn] w fun e w' => e = .returned (.bool true) ∧ Below w.heap.size w w' := by
  have h0 : 1 < w.heap.size := World.block_lt_of_cell? w _ hm
  have HM := hid hm; have HN := hid hn
  obtain ⟨pb, cb, rfl, _, _, _, _⟩ := hb.op
  obtain ⟨pn, cn, rfl, _, _, _, _⟩ := hn.op
  have HPL := hid (show Calls Tryd.prog 5 #[.slice pb b.length cb, .int .i64 60] w fun e w' => PlainPost b 60 w e w' from plain_any b 60 (.slice pb b.length cb) _ w hb (fun k h => h) (by omega))
  obtain ⟨q, hq, _, hmod⟩ := kmod_nat a 5 w ha (by omega) (by omega)
  have HMOD := hid (show ∀ w, Calls Tryd.prog 6 #[.int .i64 a, .int .i64 5] w fun e w' => e = .returned (.int .i64 (q : Int)) ∧ w = w' from hmod)
  obtain ⟨per, hper⟩ : ∃ per, per = 1 + q := ⟨_, rfl⟩
  have hpe : (1 : Int) + (q : Int) = (per : Int) := by omega
  have hp15 : 1 ≤ per ∧ per ≤ 5 := by omega
  have hwl := plainW_len b 60
  have hwx : ∀ x ∈ plainW b 60, x.length ≤ 3 ∧ x ≠ [] ∧ ∀ d ∈ x, plB d = true := by
    intro x hx
    simp only [plainW, List.mem_map] at hx
    obtain ⟨c, _, rfl⟩ := hx
    have := pw_len c
    exact ⟨this.2, fun e => by rw [e] at this; simp at this, plB_pw c⟩
  obtain ⟨o, hto, hbk⟩ := back_ok per (by omega) (nzN noise) (plainW b 60) (fun x hx => (hwx x hx).2)
  have htl := textR_len per (nzN noise) (plainW b 60) 0 0 (fun x hx => (hwx x hx).1)
  have HTX := hid (fun (w1 : World) (vw : Value) (hw : Sl (fun k => k < w1.heap.size) w1 vw ((plainW b 60).map strV)) (hn : Bys (fun k => k < w1.heap.size) w1 (.slice pn noise.length cn) noise) => text_any (plainW b 60) noise per vw _ _ w1 hw hn (fun j h => h) hp15 hwl (fun x hx => (hwx x hx).1))
  clear hm hn hmod hb hper hq
  obtain ⟨words, hwd⟩ : ∃ ws, plainW b 60 = ws := ⟨_, rfl⟩
  rw [hwd] at hwl hwx hbk htl hto
  have HPP := hid (show ∀ e w', PlainPost b 60 w e w' → Below w.heap.size w w' ∧ ∃ p c, e = .returned (.slice p words.length c) ∧ Sl (fun k => w.heap.size ≤ k ∧ Soft w' k) w' (.slice p words.length c) (words.map strV) from fun e w' h => by rw [← hwd]; exact h)
  rw [hwd] at HTX
  obtain ⟨T, hT⟩ : ∃ T, textR per (nzN noise) words 0 0 = T := ⟨_, rfl⟩
  rw [hT] at HTX htl hto hbk
  have HBK := hid hbk; have HWX := hid hwx
  have hrl := rows_len T
  have hrc := rows_count 65536 T (by omega)
  have HLN := hid (fun W hm => lines_ok (l := T) (out := o) (by rw [linesR_tok _ (by omega), hto]) m W hm)
  have HSP := hid (fun W hm => split_any T m W (by omega) hm)
  obtain ⟨rows, hrw⟩ : ∃ r, rowsNL T = r := ⟨_, rfl⟩
  rw [hrw] at HBK HSP hrl hrc
  have HRL := hid (show ∀ r ∈ rows, r.length ≤ 65536 from fun r hr => by have := hrl r hr; omega)
  have hol : o.length ≤ 65537 := by have := tok_len T o hto (m := 65537) (by omega); omega
  clear hwd hT hto hbk hwx hrw htl hrl
  go_enter Tryd.func3, Tryd.ntmps3
  go_wp2_with fail
  refine HPL.out.mono ?_
  intro e w1 hpp
  obtain ⟨hb1, p1, c1, rfl, hs1⟩ := HPP.out e w1 hpp
  have HB1 := hid hb1; have HS1 := hid hs1
  clear hb1 hs1 hpp HPP HPL
  go_wp2_with fail
  refine (HMOD.out _).mono ?_
  rintro e w2 ⟨rfl, rfl⟩
  go_wp2_with fail
  refine (HTX.out w1 _ (HS1.out.weaken fun k h => h.2.size) (HN.out.keep fun k hk => ⟨Nat.lt_of_lt_of_le hk HB1.out.size, HB1.out.block k hk⟩)).mono ?_
  rintro e w2 ⟨rfl, hb2⟩
  have HB2 := hid (HB1.out.trans (hb2.mono HB1.out.size))
  have HS2 := hid (show Sl (fun k => k < w2.heap.size) w2 (.slice p1 words.length c1) (words.map strV) from HS1.out.keep fun k hk => ⟨Nat.lt_of_lt_of_le hk.2.size hb2.size, hb2.block k hk.2.size⟩)
  clear hb2 HTX HS1 HMOD
  go_wp2_with fail
  refine (HLN.out w2 ((HB2.out.cell h0).trans HM.out)).mono ?_
  rintro e w3 ⟨hb3, p3, c3, rfl, hw3, _⟩
  have HB3 := hid (HB2.out.trans (hb3.mono HB2.out.size))
  have HS3 := hid (show Sl (fun k => k < w3.heap.size) w3 (.slice p1 words.length c1) (words.map strV) from HS2.out.keep fun k hk => ⟨Nat.lt_of_lt_of_le hk hb3.size, hb3.block k hk⟩)
  have HW3 := hid (show WLL (fun k => k < w3.heap.size) w3 (.slice p3 o.length c3) o from hw3.keep fun k hk => ⟨hk.2.size, rfl⟩)
  clear hb3 hw3 HS2 HLN
  go_wp2_with fail
  have hx4 : (w3.alloc (.cells #[.int .i64 0, .int .i64 0] 29)).heap[w3.heap.size]? = some (.cells #[.int .i64 0, .int .i64 0] 29 (0, 0)) := by rw [heap_al, if_pos rfl]
  have hb4 : Below w3.heap.size w3 (w3.alloc (.cells #[.int .i64 0, .int .i64 0] 29)) := (Below.refl _ _).alloc (Nat.le_refl _) _
  have hs4 : w3.heap.size < (w3.alloc (.cells #[.int .i64 0, .int .i64 0] 29)).heap.size := by rw [World.size_alloc]; omega
  generalize w3.alloc _ = w4 at *
  have HB4 := hid (HB3.out.trans (hb4.mono HB3.out.size))
  have HK4 := hid hb4
  obtain ⟨d1, d2, _, _⟩ := cell_lit2 hx4
  clear hb4 hx4
  go_wp2_with fail
  refine (HSP.out w4 ((HB4.out.cell h0).trans HM.out)).mono ?_
  rintro e w5 ⟨rfl, hw5⟩
  have hb5 : Below w4.heap.size w4 w5 := by rw [hw5]; exact (Below.refl _ _).alloc (Nat.le_refl _) _
  have hr5 : RowR (fun k => k < w5.heap.size) w5 (some ⟨w4.heap.size, 0, none⟩) (rows.map strV) := by rw [hw5]; exact RowR.lit _ _ _ (by rw [World.size_alloc]; omega)
  have hs5 : w5.heap.size = w4.heap.size + 1 := by rw [hw5, World.size_alloc]
  have HB5 := hid (HB4.out.trans (hb5.mono HB4.out.size)); have HK5 := hid hb5; have HR5 := hid hr5
  have HS5 := hid hs5
  clear hw5 hb5 hr5 HSP hs5
  go_wp2_with fail
  have hx6 : (w5.alloc (.cells #[.int .i64 0, .int .i64 0] 29)).heap[w5.heap.size]? = some (.cells #[.int .i64 0, .int .i64 0] 29 (0, 0)) := by rw [heap_al, if_pos rfl]
  have hb6 : Below w5.heap.size w5 (w5.alloc (.cells #[.int .i64 0, .int .i64 0] 29)) := (Below.refl _ _).alloc (Nat.le_refl _) _
  have hs6 : w5.heap.size < (w5.alloc (.cells #[.int .i64 0, .int .i64 0] 29)).heap.size := by rw [World.size_alloc]; omega
  generalize w5.alloc _ = w6 at *
  have HB6 := hid (HB5.out.trans (hb6.mono HB5.out.size))
  have hkp : ∀ W, Below w5.heap.size w6 W → ∀ k, k < w5.heap.size → W.heap[k]? = w5.heap[k]? := fun W hW k hk => (hW.block k hk).trans (hb6.block k hk)
  have hs5 := HS5.out
  have hk34 : ∀ k, k < w3.heap.size → w5.heap[k]? = w3.heap[k]? := fun k hk => (HK5.out.block k (by omega)).trans (HK4.out.block k hk)
  have HSW := hid (fun W (hW : Below w5.heap.size w6 W) => HS3.out.keep (w' := W) (R' := fun k => k < w5.heap.size) fun k hk => ⟨by omega, (hkp W hW k (by omega)).trans (hk34 k hk)⟩)
  have HWW := hid (fun W (hW : Below w5.heap.size w6 W) => HW3.out.keep (w' := W) (R' := fun k => k < w5.heap.size) fun k hk => ⟨by omega, (hkp W hW k (by omega)).trans (hk34 k hk)⟩)
  have HRW := hid (fun W (hW : Below w5.heap.size w6 W) => HR5.out.keep (w' := W) (R' := fun k => k < w5.heap.size) fun k hk => ⟨hk, hkp W hW k hk⟩)
  have HX6 := hid hx6
  have hs64 : w4.heap.size < w5.heap.size := by have := HS5.out; omega
  have HSS := hid (show w3.heap.size < w4.heap.size ∧ w5.heap.size = w4.heap.size + 1 from ⟨hs4, HS5.out⟩)
  clear hs5 hkp hk34 hx6 hb6 HS3 HW3 HR5 HK4 HK5 d1 d2 hs4
  obtain ⟨bR, hbR⟩ : ∃ b, w4.heap.size = b := ⟨_, rfl⟩
  rw [hbR] at hs64 HRW HSS ⊢
  have HRB := hid hbR
  clear hbR
  generalize hB : w5.heap.size = B at *
  have HBB := hid hB
  clear hB
  have HST := hid (show LastO o 0 0 from fun i' h k hk _ => by obtain ⟨j, _, e, _⟩ := HBK.out.pos i' h k hk; omega)
  go_loopw [6, 13, 15, 16, 17] (fun v6 nv iv kv wv W => ∃ (i n : Nat) (pl pc : Int), v6 = .bool false ∧ iv = .int .i64 i ∧ i ≤ o.length ∧ nv = .int .i64 n ∧ (i < o.length → n = i * per) ∧ (i = o.length → n = words.length) ∧ Below B w6 W ∧ W.heap[B]? = some (.cells #[.int .i64 pl, .int .i64 pc] 29 (0, 0)) ∧ LastO o i pl) (fun _ _ iv _ _ _ => o.length - (intOf iv).toNat)
  case atStart => exact ⟨0, 0, 0, 0, rfl, rfl, Nat.zero_le _, rfl, fun _ => by omega, fun e => by have := HBK.out.nil e.symm; omega, Below.refl _ _, HX6.out, HST.out⟩
  case round =>
    obtain ⟨i, n, pl, pc, rfl, rfl, hi, rfl, hn1, hn2, hbw, hxw, hlo⟩ := hrel
    obtain ⟨wo, rfl⟩ : ∃ wo : World, wo = wr := ⟨_, rfl⟩
    have HBW := hid hbw; have HXW := hid hxw; have HLO := hid hlo
    clear hbw hxw hlo HST HX6
    by_cases hil : i < o.length
    · obtain rfl : n = i * per := hn1 hil
      clear hn1 hn2
      obtain ⟨p', c', vs, he, _, _, hrow, hvl, hwds⟩ := (HWW.out w6 (Below.refl _ _)).opn
      injection he with he1 he2 he3
      subst he1
      clear he2 he3
      obtain ⟨b3, o3, rfl, hR3, hcc⟩ := hrow.at i (by omega)
      obtain ⟨pr, cr, hvi, hq1, hq2, hrr⟩ := hwds i hil (by omega)
      have HC3 := hid (fun W (hW : Below B w6 W) => show W.cell? ⟨b3, o3 + i, none⟩ = some (.slice pr o[i].length cr) from (hW.cell (p := ⟨b3, o3 + i, none⟩) hR3).trans (by rw [hcc i (by omega), hvi]))
      have hne := HBK.out.ne i hil
      obtain ⟨b4, o4, rfl, hR4, hcc4⟩ := hrr.atW 0 hne
      have HC4 := hid (fun W (hW : Below B w6 W) j (hj : j < o[i].length) => show W.cell? ⟨b4, o4 + j * 3, none⟩ = some (.string ⟨(o[i][j]).1.toArray⟩) ∧ W.cell? ⟨b4, o4 + j * 3 + 1, none⟩ = some (.int .i64 ((o[i][j]).2.1 : Int)) ∧ W.cell? ⟨b4, o4 + j * 3 + 2, none⟩ = some (.int .i64 ((o[i][j]).2.2 : Int)) from
        ⟨(hW.cell (p := ⟨b4, o4 + j * 3, none⟩) hR4).trans (hcc4 j hj).1, (hW.cell (p := ⟨b4, o4 + j * 3 + 1, none⟩) hR4).trans (hcc4 j hj).2.1, (hW.cell (p := ⟨b4, o4 + j * 3 + 2, none⟩) hR4).trans (hcc4 j hj).2.2⟩)
      have hW0 := (HBK.out.word i hil 0 hne).2.1
      obtain ⟨p', c', he, _, _, hwn, hrs⟩ := HSW.out w6 (Below.refl _ _)
      rw [List.length_map] at hwn
      injection he with he1 he2 he3
      subst he1
      clear he2 he3
      obtain ⟨b1, o1, rfl, hR1, hcc1⟩ := hrs.at 0 (by rw [List.length_map]; omega)
      have HC1 := hid (fun W (hW : Below B w6 W) j (hj : j < words.length) => show W.cell? ⟨b1, o1 + j, none⟩ = some (.string ⟨(words[j]).toArray⟩) from (hW.cell (p := ⟨b1, o1 + j, none⟩) hR1).trans (by rw [hcc1 j (by rw [List.length_map]; exact hj)]; simp [strV]))
      have HCR := hid (fun W (hW : Below B w6 W) j (hj : j < rows.length) => show W.cell? ⟨bR, j, none⟩ = some (.string ⟨(rows[j]).toArray⟩) from by
        obtain ⟨b5, o5, e5, hR5, hcc5⟩ := (HRW.out W hW).at j (by rw [List.length_map]; exact hj)
        cases e5
        have := hcc5 j (by rw [List.length_map]; exact hj)
        rw [Nat.zero_add] at this
        rw [this]; simp [strV])
      clear hrow hvl hwds hcc hvi hrr hcc4 hrs hcc1 hwn
      obtain ⟨len, hlen⟩ : ∃ n, o[i].length = n := ⟨_, rfl⟩
      have HLEN := hid hlen
      rw [hlen] at HC3 hq1 hne
      obtain ⟨base, hbase⟩ : ∃ n, i * per = n := ⟨_, rfl⟩
      have HBASE := hid hbase
      rw [hbase] at hW0 ⊢
      have hl63 : len ≤ 140737488355328 := by have := (HBK.out.word i hil (len - 1) (by omega)).1; omega
      clear hlen hbase hq2
      go_wp2_with fail
      go_loopw [6, 13, 16, 17] (fun v6 nv kv wv W => ∃ (k : Nat) (pl pc : Int), v6 = .bool false ∧ kv = .int .i64 k ∧ k ≤ len ∧ nv = .int .i64 ((base : Int) + (k : Int)) ∧ Below B w6 W ∧ W.heap[B]? = some (.cells #[.int .i64 pl, .int .i64 pc] 29 (0, 0)) ∧ LastI o i k pl pc) (fun _ _ kv _ _ => len - (intOf kv).toNat)
      case atStart => exact ⟨0, pl, pc, rfl, rfl, Nat.zero_le _, by simp, HBW.out, HXW.out, fun _ => HLO.out, fun h => by omega⟩
      case round =>
        obtain ⟨k, pl, pc, rfl, rfl, hk, rfl, hbi, hxi, hli⟩ := hrel
        obtain ⟨wi, rfl⟩ : ∃ wi : World, wi = wr := ⟨_, rfl⟩
        have HBI := hid hbi; have HXI := hid hxi; have HLI := hid hli
        have hc3 := HC3.out wi hbi
        clear hbi hxi hli HLO
        by_cases hkl : k < len
        · have hkk : k < o[i].length := by rw [HLEN.out]; exact hkl
          obtain ⟨e1, e2, e3⟩ := HC4.out wi HBI.out k hkk
          obtain ⟨hkper, hnw, htx⟩ := HBK.out.word i hil k hkk
          obtain ⟨j, hj, hL, hC, hpre⟩ := HBK.out.pos i hil k hkk
          have HTE := hid (HLI.out.tests HBK.out hil hkk)
          have HNX := hid (LastI.next HBK.out hil hkk)
          rw [HBASE.out] at hnw
          have hcw := HC1.out wi HBI.out (base + k) hnw
          have hcr := HCR.out wi HBI.out j hj
          have hmk : (base + k) % per = k := by rw [← HBASE.out, row_at k 0 i per, Nat.mod_eq_of_lt hkper]
          have htw : (o[i][k]).1 = words[base + k] := by rw [htx]; congr 1; rw [HBASE.out]
          rw [← htw] at hcw
          have htne : (o[i][k]).1 ≠ [] := by rw [htw]; exact (HWX.out _ (List.getElem_mem hnw)).2.1
          have htl3 : (o[i][k]).1.length ≤ 3 := by rw [htw]; exact (HWX.out _ (List.getElem_mem hnw)).1
          have HRJ := hid (show rows[j].length ≤ 65536 from HRL.out _ (List.getElem_mem hj))
          obtain ⟨rj, hrj2⟩ : ∃ r, rows[j] = r := ⟨_, rfl⟩
          rw [hrj2] at hcr hpre HRJ
          generalize o[i][k] = x at *
          obtain ⟨t, L, C⟩ := x
          dsimp only at e1 e2 e3 hcw hL hC hpre htne htl3
          have HNX2 := hid (show LastI o i (k + 1) (L : Int) (C : Int) from HNX.out)
          have HTE2 := hid (show pl < (L : Int) ∨ (0 < k ∧ pl = (L : Int) ∧ pc < (C : Int)) from HTE.out)
          have hC2 : C - 1 < rj.length := by
            obtain ⟨y, hy⟩ := hpre
            have := congrArg List.length hy
            rw [List.length_append, List.length_drop] at this
            have : 0 < t.length := List.length_pos_iff.2 htne
            omega
          have hrjl := HRJ.out
          have HPX := hid (show Lib.hasPrefix (rj.drop (C - 1)) t = true from by unfold Lib.hasPrefix; rw [List.isPrefixOf_iff_prefix]; exact hpre)
          have htw2 : words[base + k] = t := htw.symm
          have HLJ := hid hL
          clear HNX HTE htx hpre htw hkk HRJ hL
          have hx7 : (wi.alloc (.cells #[.string ⟨t.toArray⟩, .int .i64 (L : Int), .int .i64 (C : Int)] 36)).heap[wi.heap.size]? = some (.cells #[.string ⟨t.toArray⟩, .int .i64 (L : Int), .int .i64 (C : Int)] 36 (0, 0)) := by rw [heap_al, if_pos rfl]
          have hb7 : Below wi.heap.size wi (wi.alloc (.cells #[.string ⟨t.toArray⟩, .int .i64 (L : Int), .int .i64 (C : Int)] 36)) := (Below.refl _ _).alloc (Nat.le_refl _) _
          go_wp2_with fail
          have hbs := HBB.out
          have hBlt : B < wi.heap.size := (Array.getElem?_eq_some_iff.1 HXI.out).1
          have HX7 := hid hx7
          have HB7 := hid (show Below B w6 (wi.alloc (.cells #[.string ⟨t.toArray⟩, .int .i64 (L : Int), .int .i64 (C : Int)] 36)) from HBI.out.trans (hb7.mono (by omega)))
          have HXI7 := hid ((hb7.block B hBlt).trans HXI.out)
          clear hx7 hb7 hc3 e1 e2 e3 hcw hcr hbs
          generalize wi.alloc _ = w7 at *
          generalize hbw : wi.heap.size = bw at *
          have HBWN := hid (show B ≠ bw from by omega)
          clear hbw hBlt
          obtain ⟨c1, c2, c3, _⟩ := cell_lit3 HX7.out
          have hcw := HC1.out w7 HB7.out (base + k) hnw
          rw [htw2] at hcw
          have hcr := HCR.out w7 HB7.out j hj
          rw [hrj2] at hcr
          obtain ⟨N, hN⟩ : ∃ N : Nat, base + k = N := ⟨_, rfl⟩
          rw [hN] at hcw hnw hmk
          have hNi : (base : Int) + (k : Int) = (N : Int) := by omega
          have hmk1 : (N : Int) % (per : Int) = (k : Int) := by have := Int.natCast_emod N per; rw [hmk] at this; exact this.symm
          have hmk2 : Int.tmod (N : Int) (per : Int) = (k : Int) := by rw [Int.tmod_eq_emod_of_nonneg (by omega)]; exact hmk1
          have hpz : ((per : Int) == 0) = false := by rw [beq_eq_false_iff_ne]; omega
          have hpp : 0 < per := by omega
          have hp0 : ¬ per = 0 := by omega
          have hpi : 0 < (per : Int) := by omega
          have hk63 : (k : Int) ≤ 9223372036854775807 := by omega
          have a1 : decide ((words.length : Int) ≤ (N : Int)) = false := by simp; omega
          have a2 : (N : Int) < (words.length : Int) := by omega
          have HNI := hid hNi
          clear hN hmk
          go_wp2_with fail
          go_quiet (fail)
          have HB8 := hid (show Below B w6 (w7.drewN nq) from below_drewN' HB7.out nq)
          have HX8 := hid (show (w7.drewN nq).heap[bw]? = _ from HX7.out)
          have HXI8 := hid (show (w7.drewN nq).heap[B]? = _ from HXI7.out)
          clear HX7 HB7 HXI7 c1 c2 c3 hcw hcr a1 a2 hmk1 hmk2 hpz hpi hp0
          generalize w7.drewN nq = w8 at *
          clear nq w7
          obtain ⟨c1, c2, c3, _⟩ := cell_lit3 HX8.out
          have hcr := HCR.out w8 HB8.out j hj
          rw [hrj2] at hcr
          have hLj := HLJ.out
          have a3 : decide ((L : Int) < 1) = false := by simp; omega
          have a4 : decide ((rows.length : Int) < (L : Int)) = false := by simp; omega
          have a5 : decide ((C : Int) < 1) = false := by simp; omega
          have a6 : ¬ L = 0 := by omega
          have a7 : ¬ C = 0 := by omega
          have a8 : ¬ rows.length < L := by omega
          have a9 : decide (rows.length < L) = false := by simp; omega
          have hwL : IntKind.i64.wrap ((L : Int) - 1) = (j : Int) := by rw [IntWalk.i64_in _ (by omega)]; omega
          obtain ⟨c0, hc0⟩ : ∃ c0, C - 1 = c0 := ⟨_, rfl⟩
          have hwC : IntKind.i64.wrap ((C : Int) - 1) = (c0 : Int) := by rw [IntWalk.i64_in _ (by omega)]; omega
          rw [hc0] at HPX hC2
          have hmn : min (c0 : Int) (rj.length : Int) = (c0 : Int) := by omega
          have hjI : (j : Int) < (rows.length : Int) := by omega
          have hcI : (c0 : Int) ≤ (rj.length : Int) := by omega
          have hzr : (⟨rj.toArray⟩ : ByteArray).size = rj.length := size_mk rj
          have HHP := hid (fun W => show Calls Tryd.prog 10 #[.string ((⟨rj.toArray⟩ : ByteArray).extract c0 rj.length), .string ⟨t.toArray⟩] W fun e w' => e = .returned (.bool true) ∧ w' = W from by
            have := Tryd.strings_HasPrefix ((⟨rj.toArray⟩ : ByteArray).extract c0 rj.length) ⟨t.toArray⟩ W
            rw [show ((⟨rj.toArray⟩ : ByteArray).extract c0 rj.length).data.toList = rj.drop c0 from by rw [ByteArray.data_extract]; simp [List.take_of_length_le], show (⟨t.toArray⟩ : ByteArray).data.toList = t from rfl, HPX.out] at this
            exact this)
          clear hLj hc0 htne
          go_wp2_with fail
          go_quiet ((go_at_call 10; exact Calls.quiet_of_same (HHP.out _)))
          have HB9 := hid (show Below B w6 (w8.drewN nq) from below_drewN' HB8.out nq)
          have HX9 := hid (show (w8.drewN nq).heap[bw]? = _ from HX8.out)
          have HXI9 := hid (show (w8.drewN nq).heap[B]? = _ from HXI8.out)
          clear HX8 HB8 HXI8 c1 c2 c3 hcr a3 a4 a5 a6 a7 a8 a9 hwL hwC hmn hcI hzr HHP
          generalize w8.drewN nq = w9 at *
          clear nq w8
          obtain ⟨c1, c2, c3, _⟩ := cell_lit3 HX9.out
          obtain ⟨d1, d2, f1, f2⟩ := cell_lit2 HXI9.out
          have hne : bw ≠ B := fun e => HBWN.out e.symm
          rcases HTE2.out with hlt | ⟨hk0, rfl, hpc⟩
          · have t1 : decide ((L : Int) < pl) = false := by simp; omega
            have t2 : ((L : Int) == pl) = false := by rw [beq_eq_false_iff_ne]; omega
            by_cases hk0 : k = 0
            · have t3 : ((k : Int) == 0) = true := by rw [beq_iff_eq]; omega
              by_cases hi0 : i = 0
              · have t4 : decide (0 < (i : Int)) = false := by simp; omega
                have t5 : ¬ 0 < i := by omega
                clear hk0 hi0
                go_wp2_with fail
                have hS : (fun W' : World => W'.cell? ⟨bw, 1, none⟩ = some (.int .i64 (L : Int)) ∧ W'.cell? ⟨bw, 2, none⟩ = some (.int .i64 (C : Int))) w9.drew := ⟨c2, c3⟩
                have hwN : IntKind.i64.wrap ((N : Int) + 1) = (N : Int) + 1 := IntWalk.i64_in _ (by omega)
                have hFa : ∀ f, Fence.wide.fn f := fun _ => trivial
                refine (wpIn_wide (n := 9)).1 ?_
                refine wpIn_onlyN ?_
                refine wpIn_region_HJ (fun W' : World => W'.cell? ⟨bw, 1, none⟩ = some (.int .i64 (L : Int)) ∧ W'.cell? ⟨bw, 2, none⟩ = some (.int .i64 (C : Int))) 5 (by kernel_rfl) ?_
                simp only [List.size_toArray, List.length_cons, List.length_nil, Nat.reduceAdd]
                refine wpHJ_pure (v := ?va0) 0 hFa rfl (by kernel_rfl) (fun _ _ _ h => h.elim) (Or.inl ⟨by rfl, ?ya0⟩) (.inr hS) ?ra0
                case ya0 => (intro w' _; go_simp; try rfl)
                simp only [Act.put, List.getElem_toArray, List.getElem_cons_succ, List.getElem_cons_zero, List.setIfInBounds_toArray, List.set_cons_zero, List.set_cons_succ]
                refine wpHJ_pure (v := ?va1) 1 hFa rfl (by kernel_rfl) (fun _ _ _ h => h.elim) (Or.inl ⟨by rfl, ?ya1⟩) (.inr hS) ?ra1
                case ya1 => (intro w' _; go_simp; try rfl)
                simp only [Act.put, List.getElem_toArray, List.getElem_cons_succ, List.getElem_cons_zero, List.setIfInBounds_toArray, List.set_cons_zero, List.set_cons_succ]
                refine wpHJ_pure (v := ?va2) 2 hFa rfl (by kernel_rfl) (fun _ _ _ h => h.elim) (Or.inl ⟨by rfl, ?ya2⟩) (.inr hS) ?ra2
                case ya2 => (intro w' _; go_simp; try rfl)
                simp only [Act.put, List.getElem_toArray, List.getElem_cons_succ, List.getElem_cons_zero, List.setIfInBounds_toArray, List.set_cons_zero, List.set_cons_succ]
                refine wpHJ_take (v := ?va3) 3 hFa rfl (by kernel_rfl) (fun _ _ _ h => h.elim) (Or.inl ⟨by rfl, ?ya3⟩) hS ?ra3
                case ya3 => (intro w' hS'; obtain ⟨s1, s2⟩ := hS'; go_simp; try rfl)
                simp only [Act.put, List.getElem_toArray, List.getElem_cons_succ, List.getElem_cons_zero, List.setIfInBounds_toArray, List.set_cons_zero, List.set_cons_succ]
                refine wpHJ_pure (v := ?va4) 4 hFa rfl (by kernel_rfl) (fun _ _ _ h => h.elim) (Or.inl ⟨by rfl, ?ya4⟩) (.inr hS) ?ra4
                case ya4 => (intro w' _; go_simp; try rfl)
                simp only [Act.put, List.getElem_toArray, List.getElem_cons_succ, List.getElem_cons_zero, List.setIfInBounds_toArray, List.set_cons_zero, List.set_cons_succ]
                refine wpHJ_only 5 (by kernel_rfl) rfl ?_
                intro K hK
                go_simp
                refine hK _ _ (.inl rfl) ?_
                clear hK K
                refine wpHJ_done (by kernel_rfl) ?_ _
                simp only [onlyN, Exit.then]
                clear hFa
                have HB10 := hid (show Below B w6 ((w9.drew.setCell ⟨B, 0, none⟩ (.int .i64 (L : Int))).setCell ⟨B, 1, none⟩ (.int .i64 (C : Int))) from (HB9.out.drew.setCell (p := ⟨B, 0, none⟩) (Nat.le_refl _) _).setCell (p := ⟨B, 1, none⟩) (Nat.le_refl _) _)
                have HX10 := hid (heap_setCell_at 1 (.int .i64 (C : Int)) (heap_setCell_at 0 (.int .i64 (L : Int)) (show w9.drew.heap[B]? = some (.cells #[.int .i64 pl, .int .i64 pc] 29 (0, 0)) from HXI9.out)))
                clear hS c1 c2 c3 d1 d2 f1 f2
                go_wp2
                go_roundw
                case rel => exact ⟨k + 1, (L : Int), (C : Int), rfl, by go_num, by omega, by (rw [← HNI.out]; try (congr 1; try omega)), HB10.out, HX10.out, HNX2.out⟩
                case measure => simp [intOf]; omega
              · have t4 : decide (0 < (i : Int)) = true := by simp; omega
                have t5 : 0 < i := by omega
                clear hk0 hi0
                go_wp2_with fail
                have hS : (fun W' : World => W'.cell? ⟨bw, 1, none⟩ = some (.int .i64 (L : Int)) ∧ W'.cell? ⟨bw, 2, none⟩ = some (.int .i64 (C : Int))) w9.drew := ⟨c2, c3⟩
                have hwN : IntKind.i64.wrap ((N : Int) + 1) = (N : Int) + 1 := IntWalk.i64_in _ (by omega)
                have hFa : ∀ f, Fence.wide.fn f := fun _ => trivial
                refine (wpIn_wide (n := 9)).1 ?_
                refine wpIn_onlyN ?_
                refine wpIn_region_HJ (fun W' : World => W'.cell? ⟨bw, 1, none⟩ = some (.int .i64 (L : Int)) ∧ W'.cell? ⟨bw, 2, none⟩ = some (.int .i64 (C : Int))) 5 (by kernel_rfl) ?_
                simp only [List.size_toArray, List.length_cons, List.length_nil, Nat.reduceAdd]
                refine wpHJ_pure (v := ?vb0) 0 hFa rfl (by kernel_rfl) (fun _ _ _ h => h.elim) (Or.inl ⟨by rfl, ?yb0⟩) (.inr hS) ?rb0
                case yb0 => (intro w' _; go_simp; try rfl)
                simp only [Act.put, List.getElem_toArray, List.getElem_cons_succ, List.getElem_cons_zero, List.setIfInBounds_toArray, List.set_cons_zero, List.set_cons_succ]
                refine wpHJ_pure (v := ?vb1) 1 hFa rfl (by kernel_rfl) (fun _ _ _ h => h.elim) (Or.inl ⟨by rfl, ?yb1⟩) (.inr hS) ?rb1
                case yb1 => (intro w' _; go_simp; try rfl)
                simp only [Act.put, List.getElem_toArray, List.getElem_cons_succ, List.getElem_cons_zero, List.setIfInBounds_toArray, List.set_cons_zero, List.set_cons_succ]
                refine wpHJ_pure (v := ?vb2) 2 hFa rfl (by kernel_rfl) (fun _ _ _ h => h.elim) (Or.inl ⟨by rfl, ?yb2⟩) (.inr hS) ?rb2
                case yb2 => (intro w' _; go_simp; try rfl)
                simp only [Act.put, List.getElem_toArray, List.getElem_cons_succ, List.getElem_cons_zero, List.setIfInBounds_toArray, List.set_cons_zero, List.set_cons_succ]
                refine wpHJ_take (v := ?vb3) 3 hFa rfl (by kernel_rfl) (fun _ _ _ h => h.elim) (Or.inl ⟨by rfl, ?yb3⟩) hS ?rb3
                case yb3 => (intro w' hS'; obtain ⟨s1, s2⟩ := hS'; go_simp; try rfl)
                simp only [Act.put, List.getElem_toArray, List.getElem_cons_succ, List.getElem_cons_zero, List.setIfInBounds_toArray, List.set_cons_zero, List.set_cons_succ]
                refine wpHJ_pure (v := ?vb4) 4 hFa rfl (by kernel_rfl) (fun _ _ _ h => h.elim) (Or.inl ⟨by rfl, ?yb4⟩) (.inr hS) ?rb4
                case yb4 => (intro w' _; go_simp; try rfl)
                simp only [Act.put, List.getElem_toArray, List.getElem_cons_succ, List.getElem_cons_zero, List.setIfInBounds_toArray, List.set_cons_zero, List.set_cons_succ]
                refine wpHJ_only 5 (by kernel_rfl) rfl ?_
                intro K hK
                go_simp
                refine hK _ _ (.inl rfl) ?_
                clear hK K
                refine wpHJ_done (by kernel_rfl) ?_ _
                simp only [onlyN, Exit.then]
                clear hFa
                have HB10 := hid (show Below B w6 ((w9.drew.setCell ⟨B, 0, none⟩ (.int .i64 (L : Int))).setCell ⟨B, 1, none⟩ (.int .i64 (C : Int))) from (HB9.out.drew.setCell (p := ⟨B, 0, none⟩) (Nat.le_refl _) _).setCell (p := ⟨B, 1, none⟩) (Nat.le_refl _) _)
                have HX10 := hid (heap_setCell_at 1 (.int .i64 (C : Int)) (heap_setCell_at 0 (.int .i64 (L : Int)) (show w9.drew.heap[B]? = some (.cells #[.int .i64 pl, .int .i64 pc] 29 (0, 0)) from HXI9.out)))
                clear hS c1 c2 c3 d1 d2 f1 f2
                go_wp2
                go_roundw
                case rel => exact ⟨k + 1, (L : Int), (C : Int), rfl, by go_num, by omega, by (rw [← HNI.out]; try (congr 1; try omega)), HB10.out, HX10.out, HNX2.out⟩
                case measure => simp [intOf]; omega
            · have t3 : ((k : Int) == 0) = false := by rw [beq_eq_false_iff_ne]; omega
              go_wp2_with fail
              have hS : (fun W' : World => W'.cell? ⟨bw, 1, none⟩ = some (.int .i64 (L : Int)) ∧ W'.cell? ⟨bw, 2, none⟩ = some (.int .i64 (C : Int))) w9.drew := ⟨c2, c3⟩
              have hwN : IntKind.i64.wrap ((N : Int) + 1) = (N : Int) + 1 := IntWalk.i64_in _ (by omega)
              have hFa : ∀ f, Fence.wide.fn f := fun _ => trivial
              refine (wpIn_wide (n := 9)).1 ?_
              refine wpIn_onlyN ?_
              refine wpIn_region_HJ (fun W' : World => W'.cell? ⟨bw, 1, none⟩ = some (.int .i64 (L : Int)) ∧ W'.cell? ⟨bw, 2, none⟩ = some (.int .i64 (C : Int))) 5 (by kernel_rfl) ?_
              simp only [List.size_toArray, List.length_cons, List.length_nil, Nat.reduceAdd]
              refine wpHJ_pure (v := ?vc0) 0 hFa rfl (by kernel_rfl) (fun _ _ _ h => h.elim) (Or.inl ⟨by rfl, ?yc0⟩) (.inr hS) ?rc0
              case yc0 => (intro w' _; go_simp; try rfl)
              simp only [Act.put, List.getElem_toArray, List.getElem_cons_succ, List.getElem_cons_zero, List.setIfInBounds_toArray, List.set_cons_zero, List.set_cons_succ]
              refine wpHJ_pure (v := ?vc1) 1 hFa rfl (by kernel_rfl) (fun _ _ _ h => h.elim) (Or.inl ⟨by rfl, ?yc1⟩) (.inr hS) ?rc1
              case yc1 => (intro w' _; go_simp; try rfl)
              simp only [Act.put, List.getElem_toArray, List.getElem_cons_succ, List.getElem_cons_zero, List.setIfInBounds_toArray, List.set_cons_zero, List.set_cons_succ]
              refine wpHJ_pure (v := ?vc2) 2 hFa rfl (by kernel_rfl) (fun _ _ _ h => h.elim) (Or.inl ⟨by rfl, ?yc2⟩) (.inr hS) ?rc2
              case yc2 => (intro w' _; go_simp; try rfl)
              simp only [Act.put, List.getElem_toArray, List.getElem_cons_succ, List.getElem_cons_zero, List.setIfInBounds_toArray, List.set_cons_zero, List.set_cons_succ]
              refine wpHJ_take (v := ?vc3) 3 hFa rfl (by kernel_rfl) (fun _ _ _ h => h.elim) (Or.inl ⟨by rfl, ?yc3⟩) hS ?rc3
              case yc3 => (intro w' hS'; obtain ⟨s1, s2⟩ := hS'; go_simp; try rfl)
              simp only [Act.put, List.getElem_toArray, List.getElem_cons_succ, List.getElem_cons_zero, List.setIfInBounds_toArray, List.set_cons_zero, List.set_cons_succ]
              refine wpHJ_pure (v := ?vc4) 4 hFa rfl (by kernel_rfl) (fun _ _ _ h => h.elim) (Or.inl ⟨by rfl, ?yc4⟩) (.inr hS) ?rc4
              case yc4 => (intro w' _; go_simp; try rfl)
              simp only [Act.put, List.getElem_toArray, List.getElem_cons_succ, List.getElem_cons_zero, List.setIfInBounds_toArray, List.set_cons_zero, List.set_cons_succ]
              refine wpHJ_only 5 (by kernel_rfl) rfl ?_
              intro K hK
              go_simp
              refine hK _ _ (.inl rfl) ?_
              clear hK K
              refine wpHJ_done (by kernel_rfl) ?_ _
              simp only [onlyN, Exit.then]
              clear hFa
              have HB10 := hid (show Below B w6 ((w9.drew.setCell ⟨B, 0, none⟩ (.int .i64 (L : Int))).setCell ⟨B, 1, none⟩ (.int .i64 (C : Int))) from (HB9.out.drew.setCell (p := ⟨B, 0, none⟩) (Nat.le_refl _) _).setCell (p := ⟨B, 1, none⟩) (Nat.le_refl _) _)
              have HX10 := hid (heap_setCell_at 1 (.int .i64 (C : Int)) (heap_setCell_at 0 (.int .i64 (L : Int)) (show w9.drew.heap[B]? = some (.cells #[.int .i64 pl, .int .i64 pc] 29 (0, 0)) from HXI9.out)))
              clear hS c1 c2 c3 d1 d2 f1 f2
              go_wp2
              go_roundw
              case rel => exact ⟨k + 1, (L : Int), (C : Int), rfl, by go_num, by omega, by (rw [← HNI.out]; try (congr 1; try omega)), HB10.out, HX10.out, HNX2.out⟩
              case measure => simp [intOf]; omega
          · have t1 : decide ((L : Int) < (L : Int)) = false := by simp
            have t3 : ((k : Int) == 0) = false := by rw [beq_eq_false_iff_ne]; omega
            have t6 : decide ((C : Int) ≤ pc) = false := by simp; omega
            go_wp2_with fail
            have hS : (fun W' : World => W'.cell? ⟨bw, 1, none⟩ = some (.int .i64 (L : Int)) ∧ W'.cell? ⟨bw, 2, none⟩ = some (.int .i64 (C : Int))) w9.drew := ⟨c2, c3⟩
            have hwN : IntKind.i64.wrap ((N : Int) + 1) = (N : Int) + 1 := IntWalk.i64_in _ (by omega)
            have hFa : ∀ f, Fence.wide.fn f := fun _ => trivial
            refine (wpIn_wide (n := 9)).1 ?_
            refine wpIn_onlyN ?_
            refine wpIn_region_HJ (fun W' : World => W'.cell? ⟨bw, 1, none⟩ = some (.int .i64 (L : Int)) ∧ W'.cell? ⟨bw, 2, none⟩ = some (.int .i64 (C : Int))) 5 (by kernel_rfl) ?_
            simp only [List.size_toArray, List.length_cons, List.length_nil, Nat.reduceAdd]
            refine wpHJ_pure (v := ?vd0) 0 hFa rfl (by kernel_rfl) (fun _ _ _ h => h.elim) (Or.inl ⟨by rfl, ?yd0⟩) (.inr hS) ?rd0
            case yd0 => (intro w' _; go_simp; try rfl)
            simp only [Act.put, List.getElem_toArray, List.getElem_cons_succ, List.getElem_cons_zero, List.setIfInBounds_toArray, List.set_cons_zero, List.set_cons_succ]
            refine wpHJ_pure (v := ?vd1) 1 hFa rfl (by kernel_rfl) (fun _ _ _ h => h.elim) (Or.inl ⟨by rfl, ?yd1⟩) (.inr hS) ?rd1
            case yd1 => (intro w' _; go_simp; try rfl)
            simp only [Act.put, List.getElem_toArray, List.getElem_cons_succ, List.getElem_cons_zero, List.setIfInBounds_toArray, List.set_cons_zero, List.set_cons_succ]
            refine wpHJ_pure (v := ?vd2) 2 hFa rfl (by kernel_rfl) (fun _ _ _ h => h.elim) (Or.inl ⟨by rfl, ?yd2⟩) (.inr hS) ?rd2
            case yd2 => (intro w' _; go_simp; try rfl)
            simp only [Act.put, List.getElem_toArray, List.getElem_cons_succ, List.getElem_cons_zero, List.setIfInBounds_toArray, List.set_cons_zero, List.set_cons_succ]
            refine wpHJ_take (v := ?vd3) 3 hFa rfl (by kernel_rfl) (fun _ _ _ h => h.elim) (Or.inl ⟨by rfl, ?yd3⟩) hS ?rd3
            case yd3 => (intro w' hS'; obtain ⟨s1, s2⟩ := hS'; go_simp; try rfl)
            simp only [Act.put, List.getElem_toArray, List.getElem_cons_succ, List.getElem_cons_zero, List.setIfInBounds_toArray, List.set_cons_zero, List.set_cons_succ]
            refine wpHJ_pure (v := ?vd4) 4 hFa rfl (by kernel_rfl) (fun _ _ _ h => h.elim) (Or.inl ⟨by rfl, ?yd4⟩) (.inr hS) ?rd4
            case yd4 => (intro w' _; go_simp; try rfl)
            simp only [Act.put, List.getElem_toArray, List.getElem_cons_succ, List.getElem_cons_zero, List.setIfInBounds_toArray, List.set_cons_zero, List.set_cons_succ]
            refine wpHJ_only 5 (by kernel_rfl) rfl ?_
            intro K hK
            go_simp
            refine hK _ _ (.inl rfl) ?_
            clear hK K
            refine wpHJ_done (by kernel_rfl) ?_ _
            simp only [onlyN, Exit.then]
            clear hFa
            have HB10 := hid (show Below B w6 ((w9.drew.setCell ⟨B, 0, none⟩ (.int .i64 (L : Int))).setCell ⟨B, 1, none⟩ (.int .i64 (C : Int))) from (HB9.out.drew.setCell (p := ⟨B, 0, none⟩) (Nat.le_refl _) _).setCell (p := ⟨B, 1, none⟩) (Nat.le_refl _) _)
            have HX10 := hid (heap_setCell_at 1 (.int .i64 (C : Int)) (heap_setCell_at 0 (.int .i64 (L : Int)) (show w9.drew.heap[B]? = some (.cells #[.int .i64 (L : Int), .int .i64 pc] 29 (0, 0)) from HXI9.out)))
            clear hS c1 c2 c3 d1 d2 f1 f2
            go_wp2
            go_roundw
            case rel => exact ⟨k + 1, (L : Int), (C : Int), rfl, by go_num, by omega, by (rw [← HNI.out]; try (congr 1; try omega)), HB10.out, HX10.out, HNX2.out⟩
            case measure => simp [intOf]; omega
        · obtain rfl : len = k := by omega
          have HNR := hid (LastI.row HBK.out hil HLEN.out.symm HLI.out)
          have hf := HBK.out.fin i hil
          rw [HLEN.out, HBASE.out] at hf
          have HF1 := hid hf.1; have HF2 := hid hf.2
          clear hf
          go_wp2
          go_roundw
          case rel => exact ⟨i + 1, base + len, pl, pc, rfl, by go_num, by omega, by go_num, fun h => by rw [HF1.out h, ← HBASE.out, Nat.succ_mul], fun h => HF2.out h, HBI.out, HXI.out, HNR.out⟩
          case measure => simp [intOf]; omega
    · have hie : i = o.length := by omega
      have HNE := hid (hn2 hie)
      have hdi : decide ((i : Int) < (o.length : Int)) = false := by simp; omega
      have hnw : ((n : Int) == (words.length : Int)) = true := by rw [beq_iff_eq, HNE.out]
      clear hil hn1 hn2
      go_wp2_with fail
      have HBF := hid (show Below w.heap.size w wo from HB6.out.trans (HBW.out.mono (by rw [← HBB.out]; exact HB5.out.size)))
      refine (awake_any m wo ((HBF.out.cell h0).trans HM.out)).mono ?_
      rintro e w7 ⟨rfl, hb7⟩
      go_wp2
      go_ret
      exact ⟨rfl, HBF.out.trans (hb7.mono HBF.out.size)⟩

end Go.Proofs.YtgldgkaigomceaaDoor
