/-
  The walk of the law side's Value; what is known at the end.
-/
import Derived.Test.YtjcnhnifageikaaDoorLaw3
import Derived.Test.YtjcnhnifageikaaDoorVal
import Derived.Test.YtjcnhnifageikaaDoorDec2
namespace Go.Proofs.YtjcnhnifageikaaDoor
set_option linter.unusedSimpArgs false
set_option linter.unusedVariables false
open Go.RowKit

/-- All is known, as σ says. -/
structure KOk (σ : Nat → Bool) (F : Form) (k : List Int) : Prop where
  len : k.length = F.vars + 1
  k0 : k.getD 0 0 = 0
  all : ∀ v, 1 ≤ v → v ≤ F.vars → k.getD v 0 = (if σ v then 1 else -1)

theorem KOk.is {σ : Nat → Bool} {F : Form} {k : List Int} (h : KOk σ F k) {x : Int} (hx : okLit F.vars x = true) : isM k x = (true, litT σ x) := by
  obtain ⟨h0, h1⟩ := okLit_spec.1 hx
  have ha := h.all x.natAbs (by omega) h1
  unfold isM litT
  rw [if_neg h0, ha]
  cases σ x.natAbs <;> simp

theorem valB_take (l : List Bool) (j : Nat) (h : j < l.length) : valB (l.take (j + 1)) = valB (l.take j) + l[j].toNat * 2 ^ j := by
  rw [List.take_succ_eq_append_getElem h, valB_snoc, List.length_take, Nat.min_eq_left (by omega)]

theorem shl_add (v0 j : Nat) (h : v0 + 2 ^ j < 18446744073709551616) : IntKind.u64.wrap ((v0 : Int) + IntKind.u64.wrap (2 ^ j)) = ((v0 + true.toNat * 2 ^ j : Nat) : Int) := by
  have e : ((2 : Int) ^ j) = ((2 ^ j : Nat) : Int) := by simp
  rw [e]
  clear e
  generalize 2 ^ j = q at *
  have e2 : IntKind.u64.wrap (q : Int) = (q : Int) := IntWalk.u64_in _ (by omega)
  rw [e2, IntWalk.u64_in _ (by omega)]
  simp

set_option maxHeartbeats 1600000 in
theorem value_any (pk : Option Addr) (ck : Nat) (k : List Int) (σ : Nat → Bool) (F : Form) (vl : Value) (l : List Int) (R R' : Nat → Prop) (w : World) (hK : KOk σ F k) (hv : F.vars ≤ 1048576) (hr : RowR R w pk (k.map (Value.int .i8)))
    (hl : Ints R' w vl l) (hok : ∀ x ∈ l, okLit F.vars x = true) (h64 : l.length ≤ 64) :
    Calls Tryd.prog 22 #[.slice pk (F.vars + 1) ck, vl] w fun e w' => e = .returned (.tuple #[.int .u64 (valB (l.map (litT σ)) : Nat), .bool true]) ∧ ∃ m, w' = w.drewN m := by
  obtain ⟨pl, cl, rfl, _, _, _, hrl⟩ := hl.op
  have HK := hid hK; have HOK := hid hok
  have hkl := hK.len
  have HKL := hid hkl
  clear hK hok hl hkl
  go_enter Tryd.func22, Tryd.ntmps22
  go_wp2_with fail
  go_loopw [6, 7] (fun v i wr => ∃ (j m : Nat), j ≤ l.length ∧ i = .int .i64 j ∧ v = .int .u64 (valB ((l.map (litT σ)).take j) : Nat) ∧ wr = w.drewN m) (fun _ i _ => l.length - (intOf i).toNat)
  case atStart => exact ⟨0, 0, Nat.zero_le _, rfl, rfl, rfl⟩
  case round =>
    obtain ⟨j, m, hj, rfl, rfl, rfl⟩ := hrel
    by_cases hlt : j < l.length
    · obtain ⟨b, off, rfl, _, hc⟩ := hrl.atI j hlt
      have hcell : (w.drewN m).cell? ⟨b, off + j, none⟩ = some (.int .i64 l[j]) := hc j hlt
      have hox := HOK.out _ (List.getElem_mem hlt)
      have his := is_any pk ck k l[j] R (w.drewN m) (Bd.lit hv hox) (by have := HKL.out; omega) (hr.keep (w' := w.drewN m) fun q hq => ⟨hq, rfl⟩)
      rw [HKL.out, HK.out.is hox] at his
      have hvt := valB_take (l.map (litT σ)) j (by simpa using hlt)
      have hvl := valB_lt ((l.map (litT σ)).take (j + 1))
      have hle : 2 ^ ((l.map (litT σ)).take (j + 1)).length ≤ 2 ^ 64 := Nat.pow_le_pow_right (by decide) (by simp; omega)
      have e1 : (l.map (litT σ))[j]'(by simpa using hlt) = litT σ l[j] := by simp
      rw [e1] at hvt
      have HIS := hid his; have HVT := hid hvt
      have hvb : valB ((l.map (litT σ)).take (j + 1)) < 18446744073709551616 := by
        have : (2 : Nat) ^ 64 = 18446744073709551616 := by decide
        omega
      have HVB := hid hvb
      clear his hvt hc hox e1 hvl hle hvb
      generalize l[j] = x at *
      generalize valB ((l.map (litT σ)).take j) = v0 at *
      generalize litT σ x = bx at *
      have hj64 : (j : Int) < 64 := by omega
      have hv0 : v0 < 18446744073709551616 := by have := HVB.out; have := HVT.out; omega
      cases bx
      · go_wp2_with (go_at_call 33; refine HIS.out.mono ?_; rintro e w1 ⟨rfl, m1, rfl⟩)
        go_roundw
        case rel => exact ⟨j + 1, m + m1, by omega, by go_num, by rw [HVT.out]; simp, rfl⟩
        case measure => simp [intOf]; omega
      · go_wp2_with (go_at_call 33; refine HIS.out.mono ?_; rintro e w1 ⟨rfl, m1, rfl⟩)
        go_roundw
        case rel => exact ⟨j + 1, m + m1, by omega, by go_num, by rw [HVT.out]; exact congrArg (Value.int .u64) (shl_add v0 j (by have := HVB.out; have := HVT.out; simp at this; omega)), rfl⟩
        case measure => simp [intOf]; omega
    · obtain rfl : j = l.length := by omega
      rw [List.take_of_length_le (by simp)]
      go_wp2
      go_ret2
      exact ⟨rfl, m, rfl⟩

end Go.Proofs.YtjcnhnifageikaaDoor
