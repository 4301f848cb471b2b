/-
  The walks of the law side's small functions: Mod, place, sign, Is, open.
-/
import Derived.Test.YtjcnhnifageikaaDoorAdd2
namespace Go.Proofs.YtjcnhnifageikaaDoor
set_option linter.unusedSimpArgs false
set_option linter.unusedVariables false
open Go.RowKit

theorem below_tr {a b c : World} (h : Below a.heap.size a b) (k : Below b.heap.size b c) : Below a.heap.size a c :=
  ⟨k.os.trans h.os, k.tape.trans h.tape, k.output.trans h.output, Nat.le_trans h.size k.size, fun i hi => (k.block i (Nat.lt_of_lt_of_le hi h.size)).trans (h.block i hi)⟩

theorem tmod_mod (n m : Int) : (n.tmod m + m) % m = n % m := by
  rw [Int.add_emod_right, Int.tmod_def, Int.sub_mul_emod_self_left]

set_option maxHeartbeats 400000 in
theorem mod_any (n m : Int) (w : World) (hn : -9223372036854775808 ≤ n ∧ n ≤ 9223372036854775807) (hm : 0 < m ∧ m ≤ 4611686018427387904) :
    Calls Tryd.prog 16 #[.int .i64 n, .int .i64 m] w fun e w' => e = .returned (.int .i64 (n % m)) ∧ w = w' := by
  have h1 : -m < n.tmod m := Int.lt_tmod_of_pos n hm.1
  have h2 : n.tmod m < m := Int.tmod_lt_of_pos n hm.1
  have hz : (m == 0) = false := by simp; omega
  have h4 := Int.lt_tmod_of_pos (n.tmod m + m) hm.1
  have h5 := Int.tmod_lt_of_pos (n.tmod m + m) hm.1
  go_enter Tryd.func16, Tryd.ntmps16
  go_wp2
  go_ret
  exact ⟨ret_i (tmod_mod n m), rfl⟩

def placeM (x : Int) : Int := if 0 < x then 2 * x else -2 * x + 1

theorem place_any (x : Int) (w : World) (hx : Bd x) :
    Calls Tryd.prog 34 #[.int .i64 x] w fun e w' => e = .returned (.int .i64 (placeM x)) ∧ w = w' := by
  unfold Bd at hx
  by_cases h : 0 < x
  · have e : placeM x = 2 * x := by simp [placeM, h]
    have E := hid e; clear e
    go_enter Tryd.func34, Tryd.ntmps34
    go_wp2
    go_ret
    exact ⟨ret_i E.out.symm, rfl⟩
  · have e : placeM x = -2 * x + 1 := by simp [placeM, h]
    have E := hid e; clear e
    go_enter Tryd.func34, Tryd.ntmps34
    go_wp2
    go_ret
    exact ⟨ret_i E.out.symm, rfl⟩

def signM (x : Int) : Int := if 0 < x then 1 else -1
theorem sign_any (x : Int) (w : World) :
    Calls Tryd.prog 36 #[.int .i64 x] w fun e w' => e = .returned (.int .i8 (signM x)) ∧ w = w' := by
  by_cases h : 0 < x
  · have e : signM x = 1 := by simp [signM, h]
    have E := hid e; clear e
    go_enter Tryd.func36, Tryd.ntmps36
    go_wp2
    go_ret
    exact ⟨ret_i E.out.symm, rfl⟩
  · have e : signM x = -1 := by simp [signM, h]
    have E := hid e; clear e
    go_enter Tryd.func36, Tryd.ntmps36
    go_wp2
    go_ret
    exact ⟨ret_i E.out.symm, rfl⟩

/-- A list of int8. -/
def I8s (R : Nat → Prop) (w : World) (v : Value) (xs : List Int) : Prop := Sl R w v (xs.map (Value.int .i8))
theorem I8s.op {R : Nat → Prop} {w : World} {v : Value} {xs : List Int} (h : I8s R w v xs) :
    ∃ p c, v = .slice p xs.length c ∧ xs.length ≤ c ∧ c ≤ maxLen ∧ xs.length ≤ 140737488355328 ∧ RowR R w p (xs.map (Value.int .i8)) := by
  obtain ⟨p, c, e, h1, h2, h3, hr⟩ := h
  rw [List.length_map] at e h1 h3
  exact ⟨p, c, e, h1, h2, h3, hr⟩
theorem RowR.at8 {R : Nat → Prop} {w : World} {p : Option Addr} {xs : List Int} (h : RowR R w p (xs.map (Value.int .i8))) (k : Nat) (hk : k < xs.length) :
    ∃ b off, p = some ⟨b, off, none⟩ ∧ R b ∧ (∀ j (h : j < xs.length), w.cell? ⟨b, off + j, none⟩ = some (.int .i8 xs[j])) := by
  obtain ⟨b, off, e, hR, hc⟩ := h.at k (by simpa using hk)
  exact ⟨b, off, e, hR, fun j hj => by rw [hc j (by simpa using hj)]; simp⟩

/-- What is known of a literal. -/
def isM (k : List Int) (x : Int) : Bool × Bool :=
  if x = 0 then (false, false) else if k.getD x.natAbs 0 = 0 then (false, false) else (true, decide (0 < k.getD x.natAbs 0) == decide (0 < x))

set_option maxHeartbeats 800000 in
theorem is_any (p : Option Addr) (c : Nat) (k : List Int) (x : Int) (R : Nat → Prop) (w : World) (hx : Bd x) (hl : k.length ≤ 140737488355328) (hr : RowR R w p (k.map (Value.int .i8))) :
    Calls Tryd.prog 33 #[.slice p k.length c, .int .i64 x] w fun e w' =>
      e = .returned (.tuple #[.bool (isM k x).1, .bool (isM k x).2]) ∧ ∃ m, w' = w.drewN m := by
  unfold Bd at hx
  by_cases h0 : x = 0
  · subst h0
    have e : isM k 0 = (false, false) := by simp [isM]
    rw [e]; clear e
    go_enter Tryd.func33, Tryd.ntmps33
    go_wp2
    go_ret2
    exact ⟨rfl, 0, rfl⟩
  · have h0' : (x == 0) = false := by simp [h0]
    have hlt : x < 0 ∨ 0 < x := by omega
    obtain ⟨m, hm⟩ : ∃ m : Nat, x.natAbs = m := ⟨_, rfl⟩
    by_cases hk : m < k.length
    · obtain ⟨b, off, rfl, hR, hc⟩ := hr.at8 m hk
      have hcm := hc m hk
      have hg : k.getD m 0 = k[m] := by simp [hk]
      have e : isM k x = if k[m] = 0 then (false, false) else (true, decide (0 < k[m]) == decide (0 < x)) := by unfold isM; rw [hm, hg, if_neg h0]
      generalize k[m] = y at *
      generalize isM k x = r at *
      clear hc hr hg h0
      by_cases hy : y = 0
      · rw [if_pos hy] at e
        subst hy
        subst e
        rcases hlt with hp | hp
        · have hm1 : -x = m := by omega
          go_enter Tryd.func33, Tryd.ntmps33
          go_wp2
          go_ret2
          exact ⟨rfl, 0, rfl⟩
        · obtain rfl : x = m := by omega
          go_enter Tryd.func33, Tryd.ntmps33
          go_wp2
          go_ret2
          exact ⟨rfl, 0, rfl⟩
      · rw [if_neg hy] at e
        subst e
        have hy' : (y == 0) = false := by simp [hy]
        have HY := hid hy; clear hy
        rcases hlt with hp | hp
        · have hm1 : -x = m := by omega
          go_enter Tryd.func33, Tryd.ntmps33
          go_wp2_with fail
          (try go_quiet (fail))
          (try go_wp2)
          go_ret2
          exact ⟨rfl, ⟨_, rfl⟩⟩
        · obtain rfl : x = m := by omega
          go_enter Tryd.func33, Tryd.ntmps33
          go_wp2_with fail
          (try go_quiet (fail))
          (try go_wp2)
          go_ret2
          exact ⟨show Ending.returned (.tuple #[.bool true, .bool (decide (0 < y) == decide (0 < m))]) = _ by simp, ⟨_, rfl⟩⟩
    · have e : isM k x = (false, false) := by unfold isM; rw [hm, if_neg h0, List.getD_eq_getElem?_getD, List.getElem?_eq_none (by omega)]; rfl
      rw [e]; clear e h0 hr
      rcases hlt with hp | hp
      · have hm1 : -x = m := by omega
        go_enter Tryd.func33, Tryd.ntmps33
        go_wp2
        go_ret2
        exact ⟨rfl, 0, rfl⟩
      · obtain rfl : x = m := by omega
        go_enter Tryd.func33, Tryd.ntmps33
        go_wp2
        go_ret2
        exact ⟨rfl, 0, rfl⟩

/-- How many literals of a clause are open, at most 2, and one of them. -/
def openM (k : List Int) : List Int → Int × Int → Int × Int
  | [], s => s
  | x :: c, s =>
    if (isM k x).2 then (x, 2)
    else
      let s' := if !(isM k x).1 && (s.2 == 0 || x != s.1) then (x, s.2 + 1) else s
      if s'.2 = 2 then (s'.1, 2) else openM k c s'

set_option maxRecDepth 100000 in
set_option maxHeartbeats 1600000 in
theorem open_any (p q : Option Addr) (ck cq : Nat) (k zs : List Int) (R R' : Nat → Prop) (w : World) (hx : ∀ x ∈ zs, Bd x) (hl : k.length ≤ 140737488355328) (hr : RowR R w p (k.map (Value.int .i8)))
    (hz : zs.length ≤ 140737488355328) (hq : RowR R' w q (zs.map (Value.int .i64))) :
    Calls Tryd.prog 35 #[.slice p k.length ck, .slice q zs.length cq] w fun e w' =>
      e = .returned (.tuple #[.int .i64 (openM k zs (0, 0)).1, .int .i64 (openM k zs (0, 0)).2]) ∧ ∃ m, w' = w.drewN m := by
  have HX := hid hx; clear hx
  go_enter Tryd.func35, Tryd.ntmps35
  go_wp2_with fail
  go_loopw [4, 5, 6] (fun l m i wr => ∃ (j : Nat) (lit many : Int), j ≤ zs.length ∧ i = .int .i64 j ∧ l = .int .i64 lit ∧ m = .int .i64 many ∧ (many = 0 ∨ many = 1) ∧ openM k zs (0, 0) = openM k (zs.drop j) (lit, many) ∧ ∃ m, wr = w.drewN m)
    (fun _ _ i _ => zs.length - (intOf i).toNat)
  case atStart => exact ⟨0, 0, 0, Nat.zero_le _, rfl, rfl, rfl, .inl rfl, rfl, 0, rfl⟩
  case round =>
    obtain ⟨j, lit, many, hj, rfl, rfl, rfl, hmany, hop, nd, rfl⟩ := hrel
    by_cases hlt : j < zs.length
    · obtain ⟨b, off, rfl, hRb, hc⟩ := hq.atI j hlt
      have hcj := hc j hlt
      have hxj := HX.out _ (List.getElem_mem hlt)
      have his := is_any p ck k zs[j] R (w.drewN nd) hxj hl hr
      rw [List.drop_eq_getElem_cons hlt] at hop
      generalize zs[j] = x at *
      rw [openM] at hop
      generalize isM k x = r at *
      obtain ⟨kn, va⟩ := r
      have HIS := hid his; clear his hc
      cases va
      · simp only [Bool.false_eq_true, if_false] at hop
        cases kn
        · rcases hmany with rfl | rfl
          · simp only [Bool.not_false, Bool.true_and, beq_self_eq_true, Bool.true_or, if_true] at hop
            rw [if_neg (show ¬ ((0:Int) + 1 = 2) by decide)] at hop
            have HOP := hid hop; clear hop
            go_wp2_with (go_at_call 33; refine HIS.out.mono ?_; rintro e w1 ⟨rfl, m1, rfl⟩; rw [World.drewN_drewN])
            go_roundw
            case rel => exact ⟨j + 1, x, 1, by omega, by go_num, rfl, rfl, .inr rfl, HOP.out, _, rfl⟩
            case measure => simp [intOf]; omega
          · by_cases hxl : x = lit
            · subst hxl
              have dd : (x != x) = false := by simp
              simp only [dd, show ((1:Int) == 0) = false from rfl, Bool.not_false, Bool.or_false, Bool.and_false, Bool.false_eq_true, if_false] at hop
              rw [if_neg (show ¬ ((1:Int) = 2) by decide)] at hop
              have HOP := hid hop; clear hop
              go_wp2_with (go_at_call 33; refine HIS.out.mono ?_; rintro e w1 ⟨rfl, m1, rfl⟩; rw [World.drewN_drewN])
              go_roundw
              case rel => exact ⟨j + 1, x, 1, by omega, by go_num, rfl, rfl, .inr rfl, HOP.out, _, rfl⟩
              case measure => simp [intOf]; omega
            · have dd : (x != lit) = true := by simp [hxl]
              simp only [dd, Bool.not_false, Bool.or_true, Bool.and_true, if_true] at hop
              rw [if_pos (show ((1:Int) + 1 = 2) by decide)] at hop
              have HOP := hid hop
              have HXL := hid hxl; clear hxl hop
              go_wp2_with (go_at_call 33; refine HIS.out.mono ?_; rintro e w1 ⟨rfl, m1, rfl⟩; rw [World.drewN_drewN])
              go_ret2
              exact ⟨by rw [HOP.out]; rfl, ⟨_, rfl⟩⟩
        · simp only [Bool.not_true, Bool.false_and, Bool.false_eq_true, if_false] at hop
          rw [if_neg (by rcases hmany with h | h <;> rw [h] <;> decide)] at hop
          have HOP := hid hop; clear hop
          rcases hmany with rfl | rfl <;>
          · go_wp2_with (go_at_call 33; refine HIS.out.mono ?_; rintro e w1 ⟨rfl, m1, rfl⟩; rw [World.drewN_drewN])
            go_roundw
            case rel => exact ⟨j + 1, lit, _, by omega, by go_num, rfl, rfl, by decide, HOP.out, _, rfl⟩
            case measure => simp [intOf]; omega
      · simp only [if_true] at hop
        have HOP := hid hop
        clear hop
        go_wp2_with (go_at_call 33; refine HIS.out.mono ?_; rintro e w1 ⟨rfl, m1, rfl⟩; rw [World.drewN_drewN])
        go_ret2
        exact ⟨by rw [HOP.out]; rfl, ⟨_, rfl⟩⟩
    · obtain rfl : j = zs.length := by omega
      rw [List.drop_length, openM] at hop
      have HOP := hid hop
      clear hop
      go_wp2
      go_ret2
      exact ⟨by rw [HOP.out]; rfl, ⟨_, rfl⟩⟩

end Go.Proofs.YtjcnhnifageikaaDoor
