/-
  The walk of law 39's names.
-/
import Derived.Test.YtehjfmbnebeioaaDoorRpC
import Derived.Test.YtehjfmbnebeioaaDoorOpB
import Derived.IntWalk
namespace Go.Proofs.YtehjfmbnebeioaaDoor
set_option linter.unusedSimpArgs false
set_option linter.unusedVariables false
open Go.RowKit Go.Shelf
attribute [local go_sem] Oper.semAt_some

theorem litName (w : World) (s : By) (o : Obj) {n : Nat} (hn : n = w.heap.size + 1) : RowR (fun _ => True) ((w.alloc o).alloc (.cells #[.string ⟨s.toArray⟩] 9)) (some ⟨n, 0, none⟩) [sV s] := by
  subst hn
  have := RowR.lit (R := fun _ => True) (w.alloc o) [sV s] 9 trivial
  rw [World.size_alloc] at this
  exact this
def nameL (i : Nat) : By := [110, UInt8.ofNat (97 + i)]
def namesL (n : Nat) : List By := (List.range n).map nameL
theorem namesL_snoc (k : Nat) : namesL (k + 1) = namesL k ++ [nameL k] := by unfold namesL; rw [List.range_succ, List.map_append]; rfl
theorem namesL_len (k : Nat) : (namesL k).length = k := by simp [namesL]
theorem conv1R (c : UInt8) (w : World) : (convert 63 9 (.slice (some ⟨w.heap.size, 0, none⟩) 1 1)).run Tryd.prog (w.alloc (.cells #[.int .u8 (c.toNat : Int)] 5)) = .ok (.string ⟨#[c]⟩) (w.alloc (.cells #[.int .u8 (c.toNat : Int)] 5)) := by
  refine run_convert_bytes_back _ _ _ _ _ _ [c] Tryd.underlying63 Tryd.underlying5 Tryd.underlying9 ?_
  intro j hj
  obtain rfl : j = 0 := by simp at hj; omega
  exact cell_lit _ _ _ _
theorem conv8n (k : Nat) (h : k ≤ 100) (w : World) : (convert 63 9 (.slice (some ⟨w.heap.size, 0, none⟩) 1 1)).run Tryd.prog (w.alloc (.cells #[.int .u8 (97 + (k : Int))] 5)) = .ok (.string ⟨#[UInt8.ofNat (97 + k)]⟩) (w.alloc (.cells #[.int .u8 (97 + (k : Int))] 5)) := by
  have e : ((UInt8.ofNat (97 + k)).toNat : Int) = 97 + (k : Int) := by rw [UInt8.toNat_ofNat']; omega
  rw [← e]; exact conv1R _ w
set_option maxRecDepth 100000 in
set_option maxHeartbeats 2000000 in
theorem names_any (n : Nat) (w : World) (hn : n ≤ 100) :
    Calls Tryd.prog 16 #[.int .i64 (n : Int)] w fun e w' => (∃ u, e = .returned u ∧ Strs (fun i => w.heap.size ≤ i ∧ i < w'.heap.size) w' u (namesL n)) ∧ Below w.heap.size w w' := by
  go_enter Tryd.func16, Tryd.ntmps16
  go_wp2
  go_loopw [3, 4] (fun ov iv wr => ∃ k : Nat, k ≤ n ∧ iv = .int .i64 k ∧ wr.ownsRow w.heap.size 9 1 ov k ((namesL k).map sV) ∧ Below w.heap.size w wr) (fun _ iv _ => n - (intOf iv).toNat)
  case atStart => exact ⟨0, Nat.zero_le _, rfl, World.ownsRow_nil _ _ _ _, Below.refl _ _⟩
  case round =>
    obtain ⟨k, hk, rfl, ho, hb⟩ := hrel
    obtain ⟨wo, rfl⟩ : ∃ wo : World, wo = wr := ⟨_, rfl⟩
    obtain ⟨po, co, rfl⟩ := owns_sliceL ho
    have HO := hid ho; have HBL := hid hb
    clear ho hb
    by_cases hlt : k < n
    · have hsz := HBL.out.size
      have HSN := hid (namesL_snoc k)
      have hcv := conv8n k (by omega) wo
      have hcat : (⟨#[110]⟩ : ByteArray) ++ ⟨#[UInt8.ofNat (97 + k)]⟩ = ⟨(nameL k).toArray⟩ := by rw [ByteArray.mk_append_mk]; rfl
      generalize UInt8.ofNat (97 + k) = c0 at *
      generalize nameL k = s at *
      go_wp2_with (at_builtin; go_loud (refine wpList_app _ rfl (.tmp 10) (.tmp 17) 27 rfl w.heap.size 9 (.string ⟨#[]⟩) 16 Tryd.underlying27 info_strC rfl _ k _ rfl ((HO.out.alloc _).alloc _) (some ⟨wo.heap.size + 1, 0, none⟩) 1 1 [sV s] rfl rfl (litName wo s _ rfl) (by simp [sV, Value.oneCell']) (by omega) (by unfold maxLen; omega) (by rw [World.size_alloc, World.size_alloc]; omega) ?_; intro v5 w5 ho5 hg5 _; have HO5 := hid ho5; have HG5 := hid hg5; clear ho5 hg5))
      go_roundw
      case rel => exact ⟨k + 1, by omega, by go_num, by rw [HSN.out, List.map_append]; exact HO5.out, ((HBL.out.alloc hsz _).alloc (by rw [World.size_alloc]; omega) _).grown HG5.out (by rw [World.size_alloc, World.size_alloc]; omega) (fun j hj => (HO.out.lt j hj).1)⟩
      case measure => simp [intOf]; omega
    · obtain rfl : k = n := by omega
      go_wp2
      go_ret
      have h1 := HO.out
      exact ⟨⟨_, rfl, by have := Sl.of_owns h1 (by omega) (R := fun i => w.heap.size ≤ i ∧ i < wo.heap.size) fun j hj => ⟨(h1.lt j hj).1, (h1.lt j hj).2⟩; exact this⟩, HBL.out⟩

end Go.Proofs.YtehjfmbnebeioaaDoor
