/-
  Package dimacs: numbers.
-/
import Derived.Test.YtfllhhgnflpagaaDoorDmQ
import Derived.Test.YtfllhhgnflpagaaDoorShelf
import Derived.Shelf.Strings.SlTrimAscii
import Derived.Lib.AppendIntMem
import Derived.Laws.EntriesVeiled
import Derived.TacticsInMore
namespace Go.Proofs.YtfllhhgnflpagaaDoor
set_option linter.unusedSimpArgs false
set_option linter.unusedVariables false
open Go.RowKit Go.Shelf
attribute [local go_sem] Oper.semAt_some

theorem cell_size {w : World} {b i : Nat} {v : Value} (h : w.cell? ⟨b, i, none⟩ = some v) : b < w.heap.size := by
  rcases Nat.lt_or_ge b w.heap.size with h1 | h1
  · exact h1
  · simp [World.cell?, Array.getElem?_eq_none h1] at h
theorem tab_below {B : Nat} {w w' : World} (hb : Below B w w') (hB : w.heap.size ≤ B) {name : String} {k : IntKind} {zs : List Int} (h : Lib.TabIs Tryd.prog w name k zs) : Lib.TabIs Tryd.prog w' name k zs := by
  unfold Lib.TabIs World.var? at *
  cases hg : Tryd.prog.globalNamed name with
  | none => simp [hg] at h
  | some g =>
    simp only [hg, Option.bind_some] at h ⊢
    have hlt : g < w.heap.size := by
      rcases Nat.lt_or_ge g w.heap.size with h' | h'
      · exact h'
      · rw [Array.getElem?_eq_none h'] at h; simp at h
    rw [hb.block g (by omega)]
    exact h
/-- The variables of the library that the laws lean on. -/
structure Env (w : World) : Prop where
  max : ∃ m : Int, w.cell? ⟨3, 0, none⟩ = some (.int .i64 m)
  rng : ∃ ev : Value, w.cell? ⟨2, 0, none⟩ = some ev ∧ (ev = .nilIface ∨ ∃ te pe, ev = .iface te pe)
  pow : Lib.TabIs Tryd.prog w "internal/strconv.uint64pow10" .u64 Lib.pow10Tab
theorem Env.below {w w' : World} (h : Env w) (hb : Below w.heap.size w w') : Env w' :=
  ⟨by obtain ⟨m, hm⟩ := h.max; exact ⟨m, (hb.cell (p := ⟨_, 0, none⟩) (cell_size hm)).trans hm⟩, by obtain ⟨ev, hv, he⟩ := h.rng; exact ⟨ev, (hb.cell (p := ⟨_, 0, none⟩) (cell_size hv)).trans hv, he⟩, tab_below hb (Nat.le_refl _) h.pow⟩
theorem below_tr {a b c : World} (h : Below a.heap.size a b) (k : Below b.heap.size b c) : Below a.heap.size a c :=
  ⟨k.os.trans h.os, k.tape.trans h.tape, k.output.trans h.output, Nat.le_trans h.size k.size, fun i hi => (k.block i (Nat.lt_of_lt_of_le hi h.size)).trans (h.block i hi)⟩

theorem trimPre (s : Bs) : Lib.trimPrefix s [45] = digitsOf s := by
  unfold Lib.trimPrefix Lib.hasPrefix
  cases s with
  | nil => simp [digitsOf, List.isPrefixOf]
  | cons b t =>
    by_cases h : b = 45
    · subst h; simp [digitsOf, List.isPrefixOf]
    · have : ((45 : UInt8) == b) = false := by rw [beq_eq_false_iff_ne]; exact fun e => h e.symm
      simp [List.isPrefixOf, this, digitsOf]
      split
      · rename_i e; simp at e; exact absurd e.1 h
      · rfl
theorem trimPre_any (s : Bs) (w : World) : Calls Tryd.prog 40 #[.string ⟨s.toArray⟩, .string ⟨#[45]⟩] w fun e w' => e = .returned (.string ⟨(digitsOf s).toArray⟩) ∧ w = w' := by
  refine (Tryd.strings_TrimPrefix ⟨s.toArray⟩ ⟨#[45]⟩ w).mono ?_
  rintro e w' ⟨h1, h2⟩
  refine ⟨?_, h2.symm⟩
  rw [h1]
  show Ending.returned (.string ⟨(Lib.trimPrefix s [45]).toArray⟩) = _
  rw [trimPre]
theorem trimDig_any (s : Bs) (w : World) (hs : s.length ≤ 65536) : Calls Tryd.prog 41 #[.string ⟨s.toArray⟩, .string ⟨#[48, 49, 50, 51, 52, 53, 54, 55, 56, 57]⟩] w fun e w' => ∃ z : Bs, e = .returned (.string ⟨z.toArray⟩) ∧ (z = [] ↔ s.all isDig = true) ∧ Below w.heap.size w w' := by
  refine (Any.strings_Trim_ascii Tryd.lays160 (fun w => by kernel_rfl) (by kernel_rfl) ⟨s.toArray⟩ ⟨#[48, 49, 50, 51, 52, 53, 54, 55, 56, 57]⟩ w (by show s.toArray.size ≤ _; simp; omega) (by decide) ?_).mono ?_
  · intro j b hb
    have : b ∈ ([48, 49, 50, 51, 52, 53, 54, 55, 56, 57] : Bs) := List.mem_of_getElem? hb
    simp at this
    rcases this with rfl | rfl | rfl | rfl | rfl | rfl | rfl | rfl | rfl | rfl <;> decide
  · rintro e w' ⟨h1, h2⟩
    exact ⟨_, h1, trim_digs s, h2⟩
/-- Atoi at digits: the number, or what is no number of an int. -/
theorem atoi_any (s : Bs) (w : World) (hs : s.length ≤ 65536) (hne : s ≠ []) (hd : s.all isDig = true) (hE : Env w) :
    Calls Tryd.prog 42 #[.string ⟨s.toArray⟩] w fun e w' => ((natOf s < 9223372036854775808 ∧ e = .returned (.tuple #[.int .i64 (natOf s : Int), .nilIface])) ∨ (¬ natOf s < 9223372036854775808 ∧ ∃ (z : Int) (t : TypeId) (p : Value), e = .returned (.tuple #[.int .i64 z, .iface t p]))) ∧ Below w.heap.size w w' := by
  have ha := atoi_digs s hne hd
  by_cases h : natOf s < 9223372036854775808
  · rw [if_pos h] at ha
    refine (Tryd.strconv_Atoi_ok ⟨s.toArray⟩ (by show s.toArray.size ≤ _; simp; omega) (natOf s) ha w).mono ?_
    rintro e w' ⟨rfl, hw⟩
    refine ⟨.inl ⟨h, rfl⟩, ?_⟩
    rcases hw with rfl | ⟨t, rfl⟩
    · exact Below.refl _ _
    · exact Lib.bytesWorld_below _ _ _
  · rw [if_neg h] at ha
    obtain ⟨ev, hv, he⟩ := hE.rng
    refine (Tryd.strconv_Atoi_range ⟨s.toArray⟩ (by show s.toArray.size ≤ _; simp; omega) ha ev w hv he).mono ?_
    rintro e w' ⟨N, rfl, _, _, hb⟩
    exact ⟨.inr ⟨h, _, _, _, rfl⟩, hb⟩

def NumPost (s : Bs) (w : World) (e : Ending) (w' : World) : Prop := e = .returned (.tuple #[.int .i64 ((numM s).getD 0), .int .i64 (if (numM s).isSome then 0 else 4)]) ∧ Below w.heap.size w w'
theorem num_none {s : Bs} (h : numM s = none) {e : Ending} (he : e = .returned (.tuple #[.int .i64 0, .int .i64 4])) : e = .returned (.tuple #[.int .i64 ((numM s).getD 0), .int .i64 (if (numM s).isSome then 0 else 4)]) := by rw [h]; exact he
theorem num_some {s : Bs} {v : Int} (h : numM s = some v) {e : Ending} (he : e = .returned (.tuple #[.int .i64 v, .int .i64 0])) : e = .returned (.tuple #[.int .i64 ((numM s).getD 0), .int .i64 (if (numM s).isSome then 0 else 4)]) := by rw [h]; exact he
theorem numM_empty {s : Bs} (h : digitsOf s = []) : numM s = none := by unfold numM okDig; simp [h]

set_option maxRecDepth 100000 in
set_option maxHeartbeats 1000000 in
theorem number_empty (s : Bs) (w : World) (h : digitsOf s = []) : Calls Tryd.prog 28 #[.string ⟨s.toArray⟩] w (NumPost s w) := by
  have HN := hid (numM_empty h)
  have HT := hid (trimPre_any s)
  rw [h] at HT
  clear h
  go_enter Tryd.func28, Tryd.ntmps28
  go_wp2_with (go_at_call 40; refine (HT.out _).mono ?_; rintro e w1 ⟨rfl, rfl⟩)
  go_ret2
  exact ⟨num_none HN.out rfl, Below.refl _ _⟩

-- WALKS
theorem digitsOf_len (s : Bs) : (digitsOf s).length ≤ s.length := by
  unfold digitsOf
  split
  · simp
  · exact Nat.le_refl _
set_option maxRecDepth 100000 in
set_option maxHeartbeats 1000000 in
theorem number_minus (s : Bs) (w : World)  (h : s = [45, 48]) : Calls Tryd.prog 28 #[.string ⟨s.toArray⟩] w (NumPost s w) := by
  subst h
  have HN := hid (show numM [45, 48] = none from rfl)
  have HT := hid (trimPre_any [45, 48])
  rw [show digitsOf [45, 48] = [48] from rfl] at HT
  go_enter Tryd.func28, Tryd.ntmps28
  go_wp2_with (first | (go_at_call 40; refine (HT.out _).mono ?_; rintro e w1 ⟨rfl, rfl⟩))
  go_ret2
  exact ⟨num_none HN.out rfl, Below.refl _ _⟩

set_option maxRecDepth 100000 in
set_option maxHeartbeats 1000000 in
theorem number_one_no (s : Bs) (w : World) (b : UInt8) (h : digitsOf s = [b]) (h2 : ¬ s = [45, 48]) (hs : s.length ≤ 65536) (hd : ¬ ([b] : Bs).all isDig = true) : Calls Tryd.prog 28 #[.string ⟨s.toArray⟩] w (NumPost s w) := by
  have hdl : (digitsOf s).length ≤ 65536 := Nat.le_trans (digitsOf_len s) hs
  have HN := hid (show numM s = none from by unfold numM okDig; rw [h]; simp only [hd]; simp)
  have HND := hid hd
  have HTR := hid (fun w' => trimDig_any [b] w' (by rw [← h]; exact hdl))
  have h3 : (s == [45, 48]) = false := by simp [h2]
  have HT := hid (trimPre_any s)
  rw [h] at HT
  clear h hdl hs hd
  go_enter Tryd.func28, Tryd.ntmps28
  go_wp2_with (first | (go_at_call 40; refine (HT.out _).mono ?_; rintro e w1 ⟨rfl, rfl⟩) | (go_at_call 41; refine (HTR.out _).mono ?_; rintro e w2 ⟨z, rfl, hz, hb2⟩; have HB2 := hid hb2; have hz0 : ¬ z = [] := (fun h => HND.out (hz.1 h)); have hz1 : (z == []) = false := (by simp [hz0]); clear hz hb2))
  go_ret2
  exact ⟨num_none HN.out rfl, HB2.out⟩

set_option maxRecDepth 100000 in
set_option maxHeartbeats 1000000 in
theorem number_one_ok (s : Bs) (w : World) (b : UInt8) (h : digitsOf s = [b]) (h2 : ¬ s = [45, 48]) (hs : s.length ≤ 65536) (hE : Env w) (hd : ([b] : Bs).all isDig = true) (hn : natOf [b] < 9223372036854775808) (he : [b] = s) : Calls Tryd.prog 28 #[.string ⟨s.toArray⟩] w (NumPost s w) := by
  have hdl : (digitsOf s).length ≤ 65536 := Nat.le_trans (digitsOf_len s) hs
  have HN := hid (show numM s = some ((natOf [b] : Int)) from by unfold numM; rw [show okDig s = true from by unfold okDig; rw [h, hd]; simp [h2], if_pos rfl, h, if_pos he]; unfold capI; rw [if_pos hn])
  have HAT := hid (fun w' (hb : Below w.heap.size w w') => (atoi_any [b] w' (by rw [← h]; exact hdl) (by simp) hd (hE.below hb)).mono fun e w'' hq => show e = .returned (.tuple #[.int .i64 (natOf [b] : Int), .nilIface]) ∧ Below w'.heap.size w' w'' from ⟨by rcases hq.1 with ⟨h5, h6⟩ | ⟨h5, h6⟩ <;> first | exact absurd h5 hn | exact absurd hn h5 | exact h6, hq.2⟩)
  have HD := hid hd
  have HTR := hid (fun w' => trimDig_any [b] w' (by rw [← h]; exact hdl))
  have h3 : (s == [45, 48]) = false := by simp [h2]
  have HT := hid (trimPre_any s)
  rw [h] at HT
  generalize hgn : natOf [b] = n at *
  clear h hdl hs hd hE hgn
  subst he
  go_enter Tryd.func28, Tryd.ntmps28
  go_wp2_with (first | (go_at_call 40; refine (HT.out _).mono ?_; rintro e w1 ⟨rfl, rfl⟩) | (go_at_call 41; refine (HTR.out _).mono ?_; rintro e w2 ⟨z, rfl, hz, hb2⟩; have HB2 := hid hb2; obtain rfl : z = [] := hz.2 HD.out; clear hz hb2) | (go_at_call 42; refine (HAT.out _ HB2.out).mono ?_; rintro e w3 ⟨rfl, hb3⟩; have HB3 := hid (below_tr HB2.out hb3); clear hb3))
  go_ret2
  exact ⟨num_some HN.out rfl, HB3.out⟩

set_option maxRecDepth 100000 in
set_option maxHeartbeats 1000000 in
theorem number_one_ok_neg (s : Bs) (w : World) (b : UInt8) (h : digitsOf s = [b]) (h2 : ¬ s = [45, 48]) (hs : s.length ≤ 65536) (hE : Env w) (hd : ([b] : Bs).all isDig = true) (hn : natOf [b] < 9223372036854775808) (he : ¬ [b] = s) : Calls Tryd.prog 28 #[.string ⟨s.toArray⟩] w (NumPost s w) := by
  have hdl : (digitsOf s).length ≤ 65536 := Nat.le_trans (digitsOf_len s) hs
  have HN := hid (show numM s = some (-(natOf [b] : Int)) from by unfold numM; rw [show okDig s = true from by unfold okDig; rw [h, hd]; simp [h2], if_pos rfl, h, if_neg he]; unfold capI; rw [if_pos hn])
  have HAT := hid (fun w' (hb : Below w.heap.size w w') => (atoi_any [b] w' (by rw [← h]; exact hdl) (by simp) hd (hE.below hb)).mono fun e w'' hq => show e = .returned (.tuple #[.int .i64 (natOf [b] : Int), .nilIface]) ∧ Below w'.heap.size w' w'' from ⟨by rcases hq.1 with ⟨h5, h6⟩ | ⟨h5, h6⟩ <;> first | exact absurd h5 hn | exact absurd hn h5 | exact h6, hq.2⟩)
  have HD := hid hd
  have HTR := hid (fun w' => trimDig_any [b] w' (by rw [← h]; exact hdl))
  have h3 : (s == [45, 48]) = false := by simp [h2]
  have HT := hid (trimPre_any s)
  rw [h] at HT
  generalize hgn : natOf [b] = n at *
  clear h hdl hs hd hE hgn
  have he1 : ([b] == s) = false := by simp [he]
  go_enter Tryd.func28, Tryd.ntmps28
  go_wp2_with (first | (go_at_call 40; refine (HT.out _).mono ?_; rintro e w1 ⟨rfl, rfl⟩) | (go_at_call 41; refine (HTR.out _).mono ?_; rintro e w2 ⟨z, rfl, hz, hb2⟩; have HB2 := hid hb2; obtain rfl : z = [] := hz.2 HD.out; clear hz hb2) | (go_at_call 42; refine (HAT.out _ HB2.out).mono ?_; rintro e w3 ⟨rfl, hb3⟩; have HB3 := hid (below_tr HB2.out hb3); clear hb3))
  go_ret2
  exact ⟨num_some HN.out rfl, HB3.out⟩

set_option maxRecDepth 100000 in
set_option maxHeartbeats 1000000 in
theorem number_one_big (s : Bs) (w : World) (b : UInt8) (h : digitsOf s = [b]) (h2 : ¬ s = [45, 48]) (hs : s.length ≤ 65536) (hE : Env w) (hd : ([b] : Bs).all isDig = true) (hn : ¬ natOf [b] < 9223372036854775808) (he : [b] = s) : Calls Tryd.prog 28 #[.string ⟨s.toArray⟩] w (NumPost s w) := by
  have hdl : (digitsOf s).length ≤ 65536 := Nat.le_trans (digitsOf_len s) hs
  have HN := hid (show numM s = some (4611686018427387904) from by unfold numM; rw [show okDig s = true from by unfold okDig; rw [h, hd]; simp [h2], if_pos rfl, h, if_pos he]; unfold capI; rw [if_neg hn])
  have HAT := hid (fun w' (hb : Below w.heap.size w w') => (atoi_any [b] w' (by rw [← h]; exact hdl) (by simp) hd (hE.below hb)).mono fun e w'' hq => show (∃ (z : Int) (t : TypeId) (p : Value), e = .returned (.tuple #[.int .i64 z, .iface t p])) ∧ Below w'.heap.size w' w'' from ⟨by rcases hq.1 with ⟨h5, h6⟩ | ⟨h5, h6⟩ <;> first | exact absurd h5 hn | exact absurd hn h5 | exact h6, hq.2⟩)
  have HD := hid hd
  have HTR := hid (fun w' => trimDig_any [b] w' (by rw [← h]; exact hdl))
  have h3 : (s == [45, 48]) = false := by simp [h2]
  have HT := hid (trimPre_any s)
  rw [h] at HT
  generalize hgn : natOf [b] = n at *
  clear h hdl hs hd hE hgn
  subst he
  go_enter Tryd.func28, Tryd.ntmps28
  go_wp2_with (first | (go_at_call 40; refine (HT.out _).mono ?_; rintro e w1 ⟨rfl, rfl⟩) | (go_at_call 41; refine (HTR.out _).mono ?_; rintro e w2 ⟨z, rfl, hz, hb2⟩; have HB2 := hid hb2; obtain rfl : z = [] := hz.2 HD.out; clear hz hb2) | (go_at_call 42; refine (HAT.out _ HB2.out).mono ?_; rintro e w3 ⟨⟨z3, t3, p3, rfl⟩, hb3⟩; have HB3 := hid (below_tr HB2.out hb3); clear hb3))
  go_ret2
  exact ⟨num_some HN.out rfl, HB3.out⟩

set_option maxRecDepth 100000 in
set_option maxHeartbeats 1000000 in
theorem number_one_big_neg (s : Bs) (w : World) (b : UInt8) (h : digitsOf s = [b]) (h2 : ¬ s = [45, 48]) (hs : s.length ≤ 65536) (hE : Env w) (hd : ([b] : Bs).all isDig = true) (hn : ¬ natOf [b] < 9223372036854775808) (he : ¬ [b] = s) : Calls Tryd.prog 28 #[.string ⟨s.toArray⟩] w (NumPost s w) := by
  have hdl : (digitsOf s).length ≤ 65536 := Nat.le_trans (digitsOf_len s) hs
  have HN := hid (show numM s = some (-4611686018427387904) from by unfold numM; rw [show okDig s = true from by unfold okDig; rw [h, hd]; simp [h2], if_pos rfl, h, if_neg he]; unfold capI; rw [if_neg hn])
  have HAT := hid (fun w' (hb : Below w.heap.size w w') => (atoi_any [b] w' (by rw [← h]; exact hdl) (by simp) hd (hE.below hb)).mono fun e w'' hq => show (∃ (z : Int) (t : TypeId) (p : Value), e = .returned (.tuple #[.int .i64 z, .iface t p])) ∧ Below w'.heap.size w' w'' from ⟨by rcases hq.1 with ⟨h5, h6⟩ | ⟨h5, h6⟩ <;> first | exact absurd h5 hn | exact absurd hn h5 | exact h6, hq.2⟩)
  have HD := hid hd
  have HTR := hid (fun w' => trimDig_any [b] w' (by rw [← h]; exact hdl))
  have h3 : (s == [45, 48]) = false := by simp [h2]
  have HT := hid (trimPre_any s)
  rw [h] at HT
  generalize hgn : natOf [b] = n at *
  clear h hdl hs hd hE hgn
  have he1 : ([b] == s) = false := by simp [he]
  go_enter Tryd.func28, Tryd.ntmps28
  go_wp2_with (first | (go_at_call 40; refine (HT.out _).mono ?_; rintro e w1 ⟨rfl, rfl⟩) | (go_at_call 41; refine (HTR.out _).mono ?_; rintro e w2 ⟨z, rfl, hz, hb2⟩; have HB2 := hid hb2; obtain rfl : z = [] := hz.2 HD.out; clear hz hb2) | (go_at_call 42; refine (HAT.out _ HB2.out).mono ?_; rintro e w3 ⟨⟨z3, t3, p3, rfl⟩, hb3⟩; have HB3 := hid (below_tr HB2.out hb3); clear hb3))
  go_ret2
  exact ⟨num_some HN.out rfl, HB3.out⟩

set_option maxRecDepth 100000 in
set_option maxHeartbeats 1000000 in
theorem number_zero (s : Bs) (w : World) (b c : UInt8) (t : Bs) (h : digitsOf s = b :: c :: t) (h0 : b.toNat = 48) : Calls Tryd.prog 28 #[.string ⟨s.toArray⟩] w (NumPost s w) := by
  have HN := hid (show numM s = none from by unfold numM okDig; rw [h]; have : b = 48 := UInt8.toNat_inj.1 h0; simp [this])
  have HT := hid (trimPre_any s)
  rw [h] at HT
  have hb0 : ∀ h, ((⟨(b :: c :: t).toArray⟩ : ByteArray)[0]'h).toNat = b.toNat := fun _ => rfl
  have h1 : (b.toNat == 48) = true := by simp [h0]
  clear h
  go_enter Tryd.func28, Tryd.ntmps28
  go_wp2_with (first | (go_at_call 40; refine (HT.out _).mono ?_; rintro e w1 ⟨rfl, rfl⟩))
  go_ret2
  exact ⟨num_none HN.out rfl, Below.refl _ _⟩

set_option maxRecDepth 100000 in
set_option maxHeartbeats 1000000 in
theorem number_more_no (s : Bs) (w : World) (b c : UInt8) (t : Bs) (h : digitsOf s = (b :: c :: t)) (h0 : ¬ b.toNat = 48) (hs : s.length ≤ 65536) (hd : ¬ ((b :: c :: t) : Bs).all isDig = true) : Calls Tryd.prog 28 #[.string ⟨s.toArray⟩] w (NumPost s w) := by
  have h2 : ¬ s = [45, 48] := fun e => by subst e; simp [digitsOf] at h
  have hdl : (digitsOf s).length ≤ 65536 := Nat.le_trans (digitsOf_len s) hs
  have HN := hid (show numM s = none from by unfold numM okDig; rw [h]; simp only [hd]; simp)
  have HND := hid hd
  have HTR := hid (fun w' => trimDig_any (b :: c :: t) w' (by rw [← h]; exact hdl))
  have h1 : ((b.toNat : Int) == 48) = false := by rw [beq_eq_false_iff_ne]; omega
  have h3 : (s == [45, 48]) = false := by simp [h2]
  have HT := hid (trimPre_any s)
  rw [h] at HT
  have hb0 : ∀ h, ((⟨(b :: c :: t).toArray⟩ : ByteArray)[0]'h).toNat = b.toNat := fun _ => rfl
  clear h hdl hs hd
  go_enter Tryd.func28, Tryd.ntmps28
  go_wp2_with (first | (go_at_call 40; refine (HT.out _).mono ?_; rintro e w1 ⟨rfl, rfl⟩) | (go_at_call 41; refine (HTR.out _).mono ?_; rintro e w2 ⟨z, rfl, hz, hb2⟩; have HB2 := hid hb2; have hz0 : ¬ z = [] := (fun h => HND.out (hz.1 h)); have hz1 : (z == []) = false := (by simp [hz0]); clear hz hb2))
  go_ret2
  exact ⟨num_none HN.out rfl, HB2.out⟩

set_option maxRecDepth 100000 in
set_option maxHeartbeats 1000000 in
theorem number_more_ok (s : Bs) (w : World) (b c : UInt8) (t : Bs) (h : digitsOf s = (b :: c :: t)) (h0 : ¬ b.toNat = 48) (hs : s.length ≤ 65536) (hE : Env w) (hd : ((b :: c :: t) : Bs).all isDig = true) (hn : natOf (b :: c :: t) < 9223372036854775808) (he : (b :: c :: t) = s) : Calls Tryd.prog 28 #[.string ⟨s.toArray⟩] w (NumPost s w) := by
  have h2 : ¬ s = [45, 48] := fun e => by subst e; simp [digitsOf] at h
  have hdl : (digitsOf s).length ≤ 65536 := Nat.le_trans (digitsOf_len s) hs
  have HN := hid (show numM s = some ((natOf (b :: c :: t) : Int)) from by unfold numM; rw [show okDig s = true from by unfold okDig; rw [h, hd]; simp [h2, show ¬ b = 48 from fun e => h0 (by rw [e]; rfl)], if_pos rfl, h, if_pos he]; unfold capI; rw [if_pos hn])
  have HAT := hid (fun w' (hb : Below w.heap.size w w') => (atoi_any (b :: c :: t) w' (by rw [← h]; exact hdl) (by simp) hd (hE.below hb)).mono fun e w'' hq => show e = .returned (.tuple #[.int .i64 (natOf (b :: c :: t) : Int), .nilIface]) ∧ Below w'.heap.size w' w'' from ⟨by rcases hq.1 with ⟨h5, h6⟩ | ⟨h5, h6⟩ <;> first | exact absurd h5 hn | exact absurd hn h5 | exact h6, hq.2⟩)
  have HD := hid hd
  have HTR := hid (fun w' => trimDig_any (b :: c :: t) w' (by rw [← h]; exact hdl))
  have h1 : ((b.toNat : Int) == 48) = false := by rw [beq_eq_false_iff_ne]; omega
  have h3 : (s == [45, 48]) = false := by simp [h2]
  have HT := hid (trimPre_any s)
  rw [h] at HT
  have hb0 : ∀ h, ((⟨(b :: c :: t).toArray⟩ : ByteArray)[0]'h).toNat = b.toNat := fun _ => rfl
  generalize hgn : natOf (b :: c :: t) = n at *
  clear h hdl hs hd hE hgn
  subst he
  go_enter Tryd.func28, Tryd.ntmps28
  go_wp2_with (first | (go_at_call 40; refine (HT.out _).mono ?_; rintro e w1 ⟨rfl, rfl⟩) | (go_at_call 41; refine (HTR.out _).mono ?_; rintro e w2 ⟨z, rfl, hz, hb2⟩; have HB2 := hid hb2; obtain rfl : z = [] := hz.2 HD.out; clear hz hb2) | (go_at_call 42; refine (HAT.out _ HB2.out).mono ?_; rintro e w3 ⟨rfl, hb3⟩; have HB3 := hid (below_tr HB2.out hb3); clear hb3))
  go_ret2
  exact ⟨num_some HN.out rfl, HB3.out⟩

set_option maxRecDepth 100000 in
set_option maxHeartbeats 1000000 in
theorem number_more_ok_neg (s : Bs) (w : World) (b c : UInt8) (t : Bs) (h : digitsOf s = (b :: c :: t)) (h0 : ¬ b.toNat = 48) (hs : s.length ≤ 65536) (hE : Env w) (hd : ((b :: c :: t) : Bs).all isDig = true) (hn : natOf (b :: c :: t) < 9223372036854775808) (he : ¬ (b :: c :: t) = s) : Calls Tryd.prog 28 #[.string ⟨s.toArray⟩] w (NumPost s w) := by
  have h2 : ¬ s = [45, 48] := fun e => by subst e; simp [digitsOf] at h
  have hdl : (digitsOf s).length ≤ 65536 := Nat.le_trans (digitsOf_len s) hs
  have HN := hid (show numM s = some (-(natOf (b :: c :: t) : Int)) from by unfold numM; rw [show okDig s = true from by unfold okDig; rw [h, hd]; simp [h2, show ¬ b = 48 from fun e => h0 (by rw [e]; rfl)], if_pos rfl, h, if_neg he]; unfold capI; rw [if_pos hn])
  have HAT := hid (fun w' (hb : Below w.heap.size w w') => (atoi_any (b :: c :: t) w' (by rw [← h]; exact hdl) (by simp) hd (hE.below hb)).mono fun e w'' hq => show e = .returned (.tuple #[.int .i64 (natOf (b :: c :: t) : Int), .nilIface]) ∧ Below w'.heap.size w' w'' from ⟨by rcases hq.1 with ⟨h5, h6⟩ | ⟨h5, h6⟩ <;> first | exact absurd h5 hn | exact absurd hn h5 | exact h6, hq.2⟩)
  have HD := hid hd
  have HTR := hid (fun w' => trimDig_any (b :: c :: t) w' (by rw [← h]; exact hdl))
  have h1 : ((b.toNat : Int) == 48) = false := by rw [beq_eq_false_iff_ne]; omega
  have h3 : (s == [45, 48]) = false := by simp [h2]
  have HT := hid (trimPre_any s)
  rw [h] at HT
  have hb0 : ∀ h, ((⟨(b :: c :: t).toArray⟩ : ByteArray)[0]'h).toNat = b.toNat := fun _ => rfl
  generalize hgn : natOf (b :: c :: t) = n at *
  clear h hdl hs hd hE hgn
  have he1 : ((b :: c :: t) == s) = false := by simp [he]
  go_enter Tryd.func28, Tryd.ntmps28
  go_wp2_with (first | (go_at_call 40; refine (HT.out _).mono ?_; rintro e w1 ⟨rfl, rfl⟩) | (go_at_call 41; refine (HTR.out _).mono ?_; rintro e w2 ⟨z, rfl, hz, hb2⟩; have HB2 := hid hb2; obtain rfl : z = [] := hz.2 HD.out; clear hz hb2) | (go_at_call 42; refine (HAT.out _ HB2.out).mono ?_; rintro e w3 ⟨rfl, hb3⟩; have HB3 := hid (below_tr HB2.out hb3); clear hb3))
  go_ret2
  exact ⟨num_some HN.out rfl, HB3.out⟩

set_option maxRecDepth 100000 in
set_option maxHeartbeats 1000000 in
theorem number_more_big (s : Bs) (w : World) (b c : UInt8) (t : Bs) (h : digitsOf s = (b :: c :: t)) (h0 : ¬ b.toNat = 48) (hs : s.length ≤ 65536) (hE : Env w) (hd : ((b :: c :: t) : Bs).all isDig = true) (hn : ¬ natOf (b :: c :: t) < 9223372036854775808) (he : (b :: c :: t) = s) : Calls Tryd.prog 28 #[.string ⟨s.toArray⟩] w (NumPost s w) := by
  have h2 : ¬ s = [45, 48] := fun e => by subst e; simp [digitsOf] at h
  have hdl : (digitsOf s).length ≤ 65536 := Nat.le_trans (digitsOf_len s) hs
  have HN := hid (show numM s = some (4611686018427387904) from by unfold numM; rw [show okDig s = true from by unfold okDig; rw [h, hd]; simp [h2, show ¬ b = 48 from fun e => h0 (by rw [e]; rfl)], if_pos rfl, h, if_pos he]; unfold capI; rw [if_neg hn])
  have HAT := hid (fun w' (hb : Below w.heap.size w w') => (atoi_any (b :: c :: t) w' (by rw [← h]; exact hdl) (by simp) hd (hE.below hb)).mono fun e w'' hq => show (∃ (z : Int) (t : TypeId) (p : Value), e = .returned (.tuple #[.int .i64 z, .iface t p])) ∧ Below w'.heap.size w' w'' from ⟨by rcases hq.1 with ⟨h5, h6⟩ | ⟨h5, h6⟩ <;> first | exact absurd h5 hn | exact absurd hn h5 | exact h6, hq.2⟩)
  have HD := hid hd
  have HTR := hid (fun w' => trimDig_any (b :: c :: t) w' (by rw [← h]; exact hdl))
  have h1 : ((b.toNat : Int) == 48) = false := by rw [beq_eq_false_iff_ne]; omega
  have h3 : (s == [45, 48]) = false := by simp [h2]
  have HT := hid (trimPre_any s)
  rw [h] at HT
  have hb0 : ∀ h, ((⟨(b :: c :: t).toArray⟩ : ByteArray)[0]'h).toNat = b.toNat := fun _ => rfl
  generalize hgn : natOf (b :: c :: t) = n at *
  clear h hdl hs hd hE hgn
  subst he
  go_enter Tryd.func28, Tryd.ntmps28
  go_wp2_with (first | (go_at_call 40; refine (HT.out _).mono ?_; rintro e w1 ⟨rfl, rfl⟩) | (go_at_call 41; refine (HTR.out _).mono ?_; rintro e w2 ⟨z, rfl, hz, hb2⟩; have HB2 := hid hb2; obtain rfl : z = [] := hz.2 HD.out; clear hz hb2) | (go_at_call 42; refine (HAT.out _ HB2.out).mono ?_; rintro e w3 ⟨⟨z3, t3, p3, rfl⟩, hb3⟩; have HB3 := hid (below_tr HB2.out hb3); clear hb3))
  go_ret2
  exact ⟨num_some HN.out rfl, HB3.out⟩

set_option maxRecDepth 100000 in
set_option maxHeartbeats 1000000 in
theorem number_more_big_neg (s : Bs) (w : World) (b c : UInt8) (t : Bs) (h : digitsOf s = (b :: c :: t)) (h0 : ¬ b.toNat = 48) (hs : s.length ≤ 65536) (hE : Env w) (hd : ((b :: c :: t) : Bs).all isDig = true) (hn : ¬ natOf (b :: c :: t) < 9223372036854775808) (he : ¬ (b :: c :: t) = s) : Calls Tryd.prog 28 #[.string ⟨s.toArray⟩] w (NumPost s w) := by
  have h2 : ¬ s = [45, 48] := fun e => by subst e; simp [digitsOf] at h
  have hdl : (digitsOf s).length ≤ 65536 := Nat.le_trans (digitsOf_len s) hs
  have HN := hid (show numM s = some (-4611686018427387904) from by unfold numM; rw [show okDig s = true from by unfold okDig; rw [h, hd]; simp [h2, show ¬ b = 48 from fun e => h0 (by rw [e]; rfl)], if_pos rfl, h, if_neg he]; unfold capI; rw [if_neg hn])
  have HAT := hid (fun w' (hb : Below w.heap.size w w') => (atoi_any (b :: c :: t) w' (by rw [← h]; exact hdl) (by simp) hd (hE.below hb)).mono fun e w'' hq => show (∃ (z : Int) (t : TypeId) (p : Value), e = .returned (.tuple #[.int .i64 z, .iface t p])) ∧ Below w'.heap.size w' w'' from ⟨by rcases hq.1 with ⟨h5, h6⟩ | ⟨h5, h6⟩ <;> first | exact absurd h5 hn | exact absurd hn h5 | exact h6, hq.2⟩)
  have HD := hid hd
  have HTR := hid (fun w' => trimDig_any (b :: c :: t) w' (by rw [← h]; exact hdl))
  have h1 : ((b.toNat : Int) == 48) = false := by rw [beq_eq_false_iff_ne]; omega
  have h3 : (s == [45, 48]) = false := by simp [h2]
  have HT := hid (trimPre_any s)
  rw [h] at HT
  have hb0 : ∀ h, ((⟨(b :: c :: t).toArray⟩ : ByteArray)[0]'h).toNat = b.toNat := fun _ => rfl
  generalize hgn : natOf (b :: c :: t) = n at *
  clear h hdl hs hd hE hgn
  have he1 : ((b :: c :: t) == s) = false := by simp [he]
  go_enter Tryd.func28, Tryd.ntmps28
  go_wp2_with (first | (go_at_call 40; refine (HT.out _).mono ?_; rintro e w1 ⟨rfl, rfl⟩) | (go_at_call 41; refine (HTR.out _).mono ?_; rintro e w2 ⟨z, rfl, hz, hb2⟩; have HB2 := hid hb2; obtain rfl : z = [] := hz.2 HD.out; clear hz hb2) | (go_at_call 42; refine (HAT.out _ HB2.out).mono ?_; rintro e w3 ⟨⟨z3, t3, p3, rfl⟩, hb3⟩; have HB3 := hid (below_tr HB2.out hb3); clear hb3))
  go_ret2
  exact ⟨num_some HN.out rfl, HB3.out⟩

theorem number_any (s : Bs) (w : World) (hs : s.length ≤ 65536) (hE : Env w) : Calls Tryd.prog 28 #[.string ⟨s.toArray⟩] w (NumPost s w) := by
  match h : digitsOf s with
  | [] => exact number_empty s w h
  | [b] =>
    by_cases h2 : s = [45, 48]
    · exact number_minus s w h2
    · by_cases hd : ([b] : Bs).all isDig = true
      · by_cases hn : natOf [b] < 9223372036854775808 <;> by_cases he : [b] = s
        · exact number_one_ok s w b h h2 hs hE hd hn he
        · exact number_one_ok_neg s w b h h2 hs hE hd hn he
        · exact number_one_big s w b h h2 hs hE hd hn he
        · exact number_one_big_neg s w b h h2 hs hE hd hn he
      · exact number_one_no s w b h h2 hs hd
  | b :: c :: t =>
    by_cases h0 : b.toNat = 48
    · exact number_zero s w b c t h h0
    · by_cases hd : (b :: c :: t : Bs).all isDig = true
      · by_cases hn : natOf (b :: c :: t) < 9223372036854775808 <;> by_cases he : b :: c :: t = s
        · exact number_more_ok s w b c t h h0 hs hE hd hn he
        · exact number_more_ok_neg s w b c t h h0 hs hE hd hn he
        · exact number_more_big s w b c t h h0 hs hE hd hn he
        · exact number_more_big_neg s w b c t h h0 hs hE hd hn he
      · exact number_more_no s w b c t h h0 hs hd

end Go.Proofs.YtfllhhgnflpagaaDoor
