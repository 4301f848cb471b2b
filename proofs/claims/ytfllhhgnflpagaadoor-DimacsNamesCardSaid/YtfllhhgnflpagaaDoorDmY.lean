/-
  The reference's number.
-/
import Derived.Test.YtfllhhgnflpagaaDoorDmU
import Derived.Test.YtfllhhgnflpagaaDoorDmN
import Derived.IntWalk
namespace Go.Proofs.YtfllhhgnflpagaaDoor
set_option linter.unusedSimpArgs false
set_option linter.unusedVariables false
open Go.RowKit Go.Shelf
attribute [local go_sem] Oper.semAt_some

def RNumPost (s : Bs) (w : World) (e : Ending) (w' : World) : Prop := e = .returned (.tuple #[.int .i64 (numR s), .bool (okDig s)]) ∧ w' = w
theorem rnum_bad {s : Bs} (h : okDig s = false) : numR s = 0 := by unfold numR; rw [h]; rfl
theorem rnum_f {s : Bs} (h : okDig s = false) {w : World} {e : Ending} (he : e = .returned (.tuple #[.int .i64 0, .bool false])) : RNumPost s w e w := ⟨by rw [he, rnum_bad h, h], rfl⟩
theorem capR_bd (n : Nat) : 0 ≤ capR n ∧ capR n ≤ 1099511627776 := by unfold capR; split <;> omega
theorem isDig_iff (b : UInt8) : isDig b = true ↔ 48 ≤ b.toNat ∧ b.toNat ≤ 57 := by simp [isDig]
theorem take_snoc (d : Bs) (i : Nat) (h : i < d.length) : d.take (i + 1) = d.take i ++ [d[i]] := by rw [List.take_succ_eq_append_getElem h]
theorem rnum_pos {s : Bs} (h : okDig s = true) (he : digitsOf s = s) : numR s = capR (natOf s) := by unfold numR; rw [if_pos h, if_pos he, he]
theorem rnum_neg {d : Bs} (h : okDig (45 :: d) = true) : numR (45 :: d) = - capR (natOf d) := by
  unfold numR
  rw [if_pos h, if_neg]
  · rfl
  · intro e; have := congrArg List.length e; simp [digitsOf] at this
/-- The conditions ahead of the loop hold: what is left to say. -/
theorem okDig_all {s : Bs} (h1 : digitsOf s ≠ []) (h2 : ¬ (1 < (digitsOf s).length ∧ (digitsOf s).head? = some 48)) (h3 : s ≠ [45, 48]) : okDig s = (digitsOf s).all isDig := by
  unfold okDig
  have a1 : (digitsOf s == []) = false := by simp [h1]
  have a2 : (decide (1 < (digitsOf s).length) && (digitsOf s).head? == some 48) = false := by
    by_cases h : 1 < (digitsOf s).length
    · have : ¬ (digitsOf s).head? = some 48 := fun e => h2 ⟨h, e⟩
      simp [this]
    · simp [h]
  have a3 : (s == [45, 48]) = false := by simp [h3]
  rw [a1, a2, a3]; simp
theorem len_data (sb : ByteArray) : sb.data.toList.length = sb.size := Array.length_toList
theorem byte_at (sb : ByteArray) (i : Nat) (h : i < sb.size) (h' : i < sb.data.toList.length) : sb.data.toList[i] = sb[i] := rfl
theorem take_byte (sb : ByteArray) (i : Nat) (h : i < sb.size) : sb.data.toList.take (i + 1) = sb.data.toList.take i ++ [sb[i]] := by
  rw [take_snoc _ i (by rw [len_data]; exact h), byte_at sb i h]
theorem byte_mem (sb : ByteArray) (i : Nat) (h : i < sb.size) : sb[i] ∈ sb.data.toList := by
  rw [← byte_at sb i h (by rw [len_data]; exact h)]; exact List.getElem_mem _
/-! LOOPS -/
set_option maxRecDepth 100000 in
set_option maxHeartbeats 1000000 in
theorem rnum_loop_pos (b : UInt8) (t : Bs) (w : World) (h45 : b.toNat ≠ 45) (h48 : b.toNat = 48 → t = []) (hl : t.length ≤ 65536) :
    Calls Tryd.prog 32 #[.string ⟨(b :: t).toArray⟩] w (RNumPost (b :: t) w) := by
  have hdig : digitsOf (b :: t) = b :: t := digitsOf_pos (by simp; rintro rfl; exact h45 rfl)
  have hall := okDig_all (s := b :: t) (by rw [hdig]; simp) (by rw [hdig]; rintro ⟨h1, h2⟩; simp at h2; subst h2; rw [h48 rfl] at h1; simp at h1) (by rintro e; cases e; exact h45 rfl)
  rw [hdig] at hall
  obtain ⟨sb, hsb⟩ : ∃ sb : ByteArray, (⟨(b :: t).toArray⟩ : ByteArray) = sb := ⟨_, rfl⟩
  have hll : b :: t = sb.data.toList := by rw [← hsb]
  have hsz : sb.size = t.length + 1 := by rw [← hsb]; simp [ByteArray.size]
  have hb0 : ∀ h, sb[0]'h = b := by rw [← hsb]; intro h; rfl
  have a0 : ((b.toNat : Int) == 45) = false := by rw [beq_eq_false_iff_ne]; omega
  have a1 : (((b.toNat : Int) == 48) = true ∧ (sb.toList == [48]) = true) ∨ ((b.toNat : Int) == 48) = false := by
    by_cases h : b.toNat = 48
    · left
      obtain rfl : b = 48 := UInt8.toNat_inj.1 h
      obtain rfl := h48 h
      exact ⟨rfl, by rw [← hsb]; simp [ByteArray.toList_eq]⟩
    · right; rw [beq_eq_false_iff_ne]; omega
  have e0 : ¬ sb.toList = [] := by rw [← hsb]; simp [ByteArray.toList_mk]
  have e1 : sb.toList.isEmpty = false := by simp [e0]
  rw [hsb]
  have HALL := hid hall; have HLL := hid hll; have HDIG := hid hdig
  clear hdig hall hsb hll
  have HP : ∀ n w' e, okDig (b :: t) = true → n = capR (natOf (b :: t)) → e = Ending.returned (.tuple #[.int .i64 n, .bool true]) → w' = w → RNumPost (b :: t) w e w' := by
    rintro n w' e h1 rfl rfl rfl
    exact ⟨by rw [rnum_pos h1 HDIG.out, h1], rfl⟩
  have HNO := hid (show ∀ i (h : i < sb.size), (sb[i].toNat < 48 ∨ 57 < sb[i].toNat) → ∀ e, e = Ending.returned (.tuple #[.int .i64 0, .bool false]) → RNumPost (b :: t) w e w from by
    rintro i h hc e rfl
    have hk : okDig (b :: t) = false := by
      rw [HALL.out, HLL.out, List.all_eq_false]
      exact ⟨sb[i], byte_mem sb i h, fun e => by have := (isDig_iff _).1 e; omega⟩
    exact ⟨by rw [rnum_bad hk, hk], rfl⟩)
  have ex : ∃ a2, ((b.toNat : Int) == 48) = a2 ∧ (a2 = true → (sb.toList == [48]) = true) := ⟨_, rfl, fun h => a1.elim And.right fun h' => by rw [h'] at h; cases h⟩
  clear a1 h48
  obtain ⟨a2, ha2, ha3⟩ := ex
  cases a2 with
  | true =>
    have ha4 := ha3 rfl
    clear ha3
    go_enter Tryd.func32, Tryd.ntmps32
    go_wp2_with fail
    go_loopw [5, 6] (fun nv iv wr => ∃ i : Nat, i ≤ sb.size ∧ iv = .int .i64 (i : Int) ∧ nv = .int .i64 (capR (natOf (sb.data.toList.take i))) ∧ wr = w ∧ (sb.data.toList.take i).all isDig = true) (fun _ iv _ => sb.size - (intOf iv).toNat)
    case atStart => exact ⟨0, by omega, rfl, by simp [natOf, natFrom, capR], rfl, by simp⟩
    case round =>
      obtain ⟨i, hi, rfl, rfl, rfl, hdg⟩ := hrel
      by_cases hlt : i < sb.size
      · have hid' : decide ((i : Int) < (sb.size : Int)) = true := by simp; omega
        have htk := take_byte sb i hlt
        obtain ⟨n0, hn0⟩ : ∃ n0, capR (natOf (sb.data.toList.take i)) = n0 := ⟨_, rfl⟩
        have hb := capR_bd (natOf (sb.data.toList.take i))
        have hsn := capR_snoc (sb.data.toList.take i) sb[i]
        rw [← htk] at hsn
        rw [hn0] at hb hsn ⊢
        obtain ⟨hb1, hb2⟩ := hb
        have HTK := hid htk; have HSN := hid hsn; have HDG := hid hdg
        clear htk hsn hdg hn0
        by_cases hu1 : sb[i].toNat < 48
        · have c1 : decide ((sb[i].toNat : Int) < 48) = true := by simp; omega
          have HBAD := hid (HNO.out i hlt (by omega))
          clear hu1
          go_wp2_with fail
          go_ret2
          exact HBAD.out _ rfl
        by_cases hu2 : 57 < sb[i].toNat
        · have c1 : decide ((sb[i].toNat : Int) < 48) = false := by simp; omega
          have c2 : decide (57 < (sb[i].toNat : Int)) = true := by simp; omega
          have HBAD := hid (HNO.out i hlt (by omega))
          clear hu1 hu2
          go_wp2_with fail
          go_ret2
          exact HBAD.out _ rfl
        have c1 : decide ((sb[i].toNat : Int) < 48) = false := by simp; omega
        have c2 : decide (57 < (sb[i].toNat : Int)) = false := by simp; omega
        obtain ⟨u, hu, hu9⟩ : ∃ u : Nat, sb[i].toNat = u + 48 ∧ u ≤ 9 := ⟨sb[i].toNat - 48, by omega, by omega⟩
        have hdd : isDig sb[i] = true := (isDig_iff _).2 (by omega)
        have hsn2 := HSN.out
        rw [show sb[i].toNat - 48 = u by omega] at hsn2
        have hw1 : IntKind.u8.wrap ((sb[i].toNat : Int) - 48) = (u : Int) := by rw [IntKind.wrap_u8]; omega
        have HSN2 := hid hsn2; have HDD := hid hdd
        clear hsn2 hu1 hu2 hdd HSN hu
        have hgr : (sb.data.toList.take (i + 1)).all isDig = true := by rw [HTK.out, List.all_append, HDG.out]; simp [HDD.out]
        have HGR := hid hgr
        clear hgr
        have HR := hid (show min (10 * n0 + (u : Int)) 1099511627776 = capR (natOf (sb.data.toList.take (i + 1))) from by rw [← HSN2.out]; split <;> omega)
        go_wp2_with fail
        go_roundw
        case rel => exact ⟨i + 1, by omega, by go_num, by rw [← HR.out], (by first | rfl | trivial), HGR.out⟩
        case measure => (simp [intOf] <;> omega)
      · obtain rfl : i = sb.size := by omega
        have hid' : decide (((sb.size : Nat) : Int) < (sb.size : Int)) = false := by simp
        rw [show sb.data.toList.take sb.size = sb.data.toList from List.take_of_length_le (Nat.le_of_eq (len_data _))] at hdg ⊢
        have hok : okDig (b :: t) = true := by rw [HALL.out, HLL.out]; exact hdg
        have HF := hid (HP (capR (natOf sb.data.toList)) _ _ hok (by rw [HLL.out]) rfl rfl)
        obtain ⟨n0, hn0⟩ : ∃ n0, capR (natOf sb.data.toList) = n0 := ⟨_, rfl⟩
        have hb := capR_bd (natOf sb.data.toList)
        rw [hn0] at HF hb ⊢
        obtain ⟨hb1, hb2⟩ := hb
        clear hn0 hdg hok HP
        go_wp2_with fail
        go_ret2
        exact HF.out
  | false =>
    clear ha3
    go_enter Tryd.func32, Tryd.ntmps32
    go_wp2_with fail
    go_loopw [5, 6] (fun nv iv wr => ∃ i : Nat, i ≤ sb.size ∧ iv = .int .i64 (i : Int) ∧ nv = .int .i64 (capR (natOf (sb.data.toList.take i))) ∧ wr = w ∧ (sb.data.toList.take i).all isDig = true) (fun _ iv _ => sb.size - (intOf iv).toNat)
    case atStart => exact ⟨0, by omega, rfl, by simp [natOf, natFrom, capR], rfl, by simp⟩
    case round =>
      obtain ⟨i, hi, rfl, rfl, rfl, hdg⟩ := hrel
      by_cases hlt : i < sb.size
      · have hid' : decide ((i : Int) < (sb.size : Int)) = true := by simp; omega
        have htk := take_byte sb i hlt
        obtain ⟨n0, hn0⟩ : ∃ n0, capR (natOf (sb.data.toList.take i)) = n0 := ⟨_, rfl⟩
        have hb := capR_bd (natOf (sb.data.toList.take i))
        have hsn := capR_snoc (sb.data.toList.take i) sb[i]
        rw [← htk] at hsn
        rw [hn0] at hb hsn ⊢
        obtain ⟨hb1, hb2⟩ := hb
        have HTK := hid htk; have HSN := hid hsn; have HDG := hid hdg
        clear htk hsn hdg hn0
        by_cases hu1 : sb[i].toNat < 48
        · have c1 : decide ((sb[i].toNat : Int) < 48) = true := by simp; omega
          have HBAD := hid (HNO.out i hlt (by omega))
          clear hu1
          go_wp2_with fail
          go_ret2
          exact HBAD.out _ rfl
        by_cases hu2 : 57 < sb[i].toNat
        · have c1 : decide ((sb[i].toNat : Int) < 48) = false := by simp; omega
          have c2 : decide (57 < (sb[i].toNat : Int)) = true := by simp; omega
          have HBAD := hid (HNO.out i hlt (by omega))
          clear hu1 hu2
          go_wp2_with fail
          go_ret2
          exact HBAD.out _ rfl
        have c1 : decide ((sb[i].toNat : Int) < 48) = false := by simp; omega
        have c2 : decide (57 < (sb[i].toNat : Int)) = false := by simp; omega
        obtain ⟨u, hu, hu9⟩ : ∃ u : Nat, sb[i].toNat = u + 48 ∧ u ≤ 9 := ⟨sb[i].toNat - 48, by omega, by omega⟩
        have hdd : isDig sb[i] = true := (isDig_iff _).2 (by omega)
        have hsn2 := HSN.out
        rw [show sb[i].toNat - 48 = u by omega] at hsn2
        have hw1 : IntKind.u8.wrap ((sb[i].toNat : Int) - 48) = (u : Int) := by rw [IntKind.wrap_u8]; omega
        have HSN2 := hid hsn2; have HDD := hid hdd
        clear hsn2 hu1 hu2 hdd HSN hu
        have hgr : (sb.data.toList.take (i + 1)).all isDig = true := by rw [HTK.out, List.all_append, HDG.out]; simp [HDD.out]
        have HGR := hid hgr
        clear hgr
        have HR := hid (show min (10 * n0 + (u : Int)) 1099511627776 = capR (natOf (sb.data.toList.take (i + 1))) from by rw [← HSN2.out]; split <;> omega)
        go_wp2_with fail
        go_roundw
        case rel => exact ⟨i + 1, by omega, by go_num, by rw [← HR.out], (by first | rfl | trivial), HGR.out⟩
        case measure => (simp [intOf] <;> omega)
      · obtain rfl : i = sb.size := by omega
        have hid' : decide (((sb.size : Nat) : Int) < (sb.size : Int)) = false := by simp
        rw [show sb.data.toList.take sb.size = sb.data.toList from List.take_of_length_le (Nat.le_of_eq (len_data _))] at hdg ⊢
        have hok : okDig (b :: t) = true := by rw [HALL.out, HLL.out]; exact hdg
        have HF := hid (HP (capR (natOf sb.data.toList)) _ _ hok (by rw [HLL.out]) rfl rfl)
        obtain ⟨n0, hn0⟩ : ∃ n0, capR (natOf sb.data.toList) = n0 := ⟨_, rfl⟩
        have hb := capR_bd (natOf sb.data.toList)
        rw [hn0] at HF hb ⊢
        obtain ⟨hb1, hb2⟩ := hb
        clear hn0 hdg hok HP
        go_wp2_with fail
        go_ret2
        exact HF.out

set_option maxRecDepth 100000 in
set_option maxHeartbeats 1000000 in
theorem rnum_loop_neg (c : UInt8) (t : Bs) (w : World) (h48 : c.toNat ≠ 48) (hl : t.length ≤ 65536) :
    Calls Tryd.prog 32 #[.string ⟨(45 :: c :: t).toArray⟩] w (RNumPost (45 :: c :: t) w) := by
  have hdig : digitsOf (45 :: c :: t) = c :: t := rfl
  have hall := okDig_all (s := 45 :: c :: t) (by rw [hdig]; simp) (by rw [hdig]; rintro ⟨h1, h2⟩; simp at h2; subst h2; exact h48 rfl) (by rintro e; cases e; exact h48 rfl)
  rw [hdig] at hall
  obtain ⟨sb, hsb⟩ : ∃ sb : ByteArray, (⟨(45 :: c :: t).toArray⟩ : ByteArray) = sb := ⟨_, rfl⟩
  obtain ⟨db, hdb⟩ : ∃ db : ByteArray, (⟨(c :: t).toArray⟩ : ByteArray) = db := ⟨_, rfl⟩
  have hsz : sb.size = t.length + 2 := by rw [← hsb]; simp [ByteArray.size]
  have hdz : db.size = t.length + 1 := by rw [← hdb]; simp [ByteArray.size]
  have hll : c :: t = db.data.toList := by rw [← hdb]
  have hb0 : ∀ h, (sb[0]'h).toNat = 45 := by rw [← hsb]; intro h; rfl
  have hd0 : ∀ h, db[0]'h = c := by rw [← hdb]; intro h; rfl
  have a0 : ((c.toNat : Int) == 48) = false := by rw [beq_eq_false_iff_ne]; omega
  have hex : sb.extract 1 (t.length + 2) = db := by
    rw [← hsb, ← hdb]
    apply ByteArray.ext
    apply Array.ext'
    simp [ByteArray.data_extract]
  have e0 : ¬ db.toList = [] := by rw [← hdb]; simp [ByteArray.toList_mk]
  have e1 : db.toList.isEmpty = false := by simp [e0]
  have e2 : (db.toList == sb.toList) = false := by rw [← hdb, ← hsb]; rw [ByteArray.toList_mk, ByteArray.toList_mk, beq_eq_false_iff_ne]; intro h; have := congrArg List.length h; simp at this
  have e3 : (sb.toList == [48]) = false := by rw [← hsb]; rw [ByteArray.toList_mk, beq_eq_false_iff_ne]; intro h; cases h
  rw [hsb]
  have HALL := hid hall; have HLL := hid hll; have HDIG := hid hdig
  clear hdig hall hsb hll hdb
  have HP : ∀ n w' e, okDig (45 :: c :: t) = true → n = capR (natOf (c :: t)) → e = Ending.returned (.tuple #[.int .i64 (-n), .bool true]) → w' = w → RNumPost (45 :: c :: t) w e w' := by
    rintro n w' e h1 rfl rfl rfl
    exact ⟨by rw [rnum_neg h1, h1], rfl⟩
  have HNO := hid (show ∀ i (h : i < db.size), (db[i].toNat < 48 ∨ 57 < db[i].toNat) → ∀ e, e = Ending.returned (.tuple #[.int .i64 0, .bool false]) → RNumPost (45 :: c :: t) w e w from by
    rintro i h hc e rfl
    have hk : okDig (45 :: c :: t) = false := by
      rw [HALL.out, HLL.out, List.all_eq_false]
      exact ⟨db[i], byte_mem db i h, fun e => by have := (isDig_iff _).1 e; omega⟩
    exact ⟨by rw [rnum_bad hk, hk], rfl⟩)
  clear h48
  go_enter Tryd.func32, Tryd.ntmps32
  go_wp2_with fail
  go_loopw [5, 6] (fun nv iv wr => ∃ i : Nat, i ≤ db.size ∧ iv = .int .i64 (i : Int) ∧ nv = .int .i64 (capR (natOf (db.data.toList.take i))) ∧ wr = w ∧ (db.data.toList.take i).all isDig = true) (fun _ iv _ => db.size - (intOf iv).toNat)
  case atStart => exact ⟨0, by omega, rfl, by simp [natOf, natFrom, capR], rfl, by simp⟩
  case round =>
    obtain ⟨i, hi, rfl, rfl, rfl, hdg⟩ := hrel
    by_cases hlt : i < db.size
    · have hid' : decide ((i : Int) < (db.size : Int)) = true := by simp; omega
      have htk := take_byte db i hlt
      obtain ⟨n0, hn0⟩ : ∃ n0, capR (natOf (db.data.toList.take i)) = n0 := ⟨_, rfl⟩
      have hb := capR_bd (natOf (db.data.toList.take i))
      have hsn := capR_snoc (db.data.toList.take i) db[i]
      rw [← htk] at hsn
      rw [hn0] at hb hsn ⊢
      obtain ⟨hb1, hb2⟩ := hb
      have HTK := hid htk; have HSN := hid hsn; have HDG := hid hdg
      clear htk hsn hdg hn0
      by_cases hu1 : db[i].toNat < 48
      · have c1 : decide ((db[i].toNat : Int) < 48) = true := by simp; omega
        have HBAD := hid (HNO.out i hlt (by omega))
        clear hu1
        go_wp2_with fail
        go_ret2
        exact HBAD.out _ rfl
      by_cases hu2 : 57 < db[i].toNat
      · have c1 : decide ((db[i].toNat : Int) < 48) = false := by simp; omega
        have c2 : decide (57 < (db[i].toNat : Int)) = true := by simp; omega
        have HBAD := hid (HNO.out i hlt (by omega))
        clear hu1 hu2
        go_wp2_with fail
        go_ret2
        exact HBAD.out _ rfl
      have c1 : decide ((db[i].toNat : Int) < 48) = false := by simp; omega
      have c2 : decide (57 < (db[i].toNat : Int)) = false := by simp; omega
      obtain ⟨u, hu, hu9⟩ : ∃ u : Nat, db[i].toNat = u + 48 ∧ u ≤ 9 := ⟨db[i].toNat - 48, by omega, by omega⟩
      have hdd : isDig db[i] = true := (isDig_iff _).2 (by omega)
      have hsn2 := HSN.out
      rw [show db[i].toNat - 48 = u by omega] at hsn2
      have hw1 : IntKind.u8.wrap ((db[i].toNat : Int) - 48) = (u : Int) := by rw [IntKind.wrap_u8]; omega
      have HSN2 := hid hsn2; have HDD := hid hdd
      clear hsn2 hu1 hu2 hdd HSN hu
      have hgr : (db.data.toList.take (i + 1)).all isDig = true := by rw [HTK.out, List.all_append, HDG.out]; simp [HDD.out]
      have HGR := hid hgr
      clear hgr
      have HR := hid (show min (10 * n0 + (u : Int)) 1099511627776 = capR (natOf (db.data.toList.take (i + 1))) from by rw [← HSN2.out]; split <;> omega)
      go_wp2_with fail
      go_roundw
      case rel => exact ⟨i + 1, by omega, by go_num, by rw [← HR.out], (by first | rfl | trivial), HGR.out⟩
      case measure => (simp [intOf] <;> omega)
    · obtain rfl : i = db.size := by omega
      have hid' : decide (((db.size : Nat) : Int) < (db.size : Int)) = false := by simp
      rw [show db.data.toList.take db.size = db.data.toList from List.take_of_length_le (Nat.le_of_eq (len_data _))] at hdg ⊢
      have hok : okDig (45 :: c :: t) = true := by rw [HALL.out, HLL.out]; exact hdg
      have HF := hid (HP (capR (natOf db.data.toList)) _ _ hok (by rw [HLL.out]) rfl rfl)
      obtain ⟨n0, hn0⟩ : ∃ n0, capR (natOf db.data.toList) = n0 := ⟨_, rfl⟩
      have hb := capR_bd (natOf db.data.toList)
      rw [hn0] at HF hb ⊢
      obtain ⟨hb1, hb2⟩ := hb
      clear hn0 hdg hok HP
      go_wp2_with fail
      go_ret2
      exact HF.out

set_option maxRecDepth 100000 in
theorem rnum_none (w : World) : Calls Tryd.prog 32 #[.string ⟨([] : Bs).toArray⟩] w (RNumPost [] w) := by
  have H := hid (show okDig [] = false from rfl)
  go_enter Tryd.func32, Tryd.ntmps32
  go_wp2_with fail
  go_ret2
  exact rnum_f H.out rfl
set_option maxRecDepth 100000 in
theorem rnum_dash (w : World) : Calls Tryd.prog 32 #[.string ⟨([45] : Bs).toArray⟩] w (RNumPost [45] w) := by
  have H := hid (show okDig [45] = false from rfl)
  obtain ⟨sb, hsb⟩ : ∃ sb : ByteArray, (⟨([45] : Bs).toArray⟩ : ByteArray) = sb := ⟨_, rfl⟩
  have hsz : sb.size = 1 := by rw [← hsb]; rfl
  have hb0 : ∀ h, (sb[0]'h).toNat = 45 := by rw [← hsb]; intro h; rfl
  have hex : sb.extract 1 1 = ⟨#[]⟩ := by rw [← hsb]; rfl
  rw [hsb]
  clear hsb
  go_enter Tryd.func32, Tryd.ntmps32
  go_wp2_with fail
  go_ret2
  exact rnum_f H.out rfl
set_option maxRecDepth 100000 in
theorem rnum_zero (t : Bs) (w : World) (ht : t ≠ []) (hl : t.length ≤ 65536) : Calls Tryd.prog 32 #[.string ⟨(48 :: t).toArray⟩] w (RNumPost (48 :: t) w) := by
  have H := hid (show okDig (48 :: t) = false from by
    unfold okDig
    rw [show digitsOf (48 :: t) = 48 :: t from rfl]
    have : 0 < t.length := List.length_pos_iff.2 ht
    simp [this])
  obtain ⟨sb, hsb⟩ : ∃ sb : ByteArray, (⟨(48 :: t).toArray⟩ : ByteArray) = sb := ⟨_, rfl⟩
  have hsz : sb.size = t.length + 1 := by rw [← hsb]; simp [ByteArray.size]
  have hb0 : ∀ h, (sb[0]'h).toNat = 48 := by rw [← hsb]; intro h; rfl
  have e0 : ¬ sb.toList = [] := by rw [← hsb]; simp [ByteArray.toList_mk]
  have e1 : sb.toList.isEmpty = false := by simp [e0]
  have e3 : (sb.toList == [48]) = false := by rw [← hsb]; rw [ByteArray.toList_mk, beq_eq_false_iff_ne]; intro h; cases h; exact ht rfl
  rw [hsb]
  clear hsb ht
  go_enter Tryd.func32, Tryd.ntmps32
  go_wp2_with fail
  go_ret2
  exact rnum_f H.out rfl
set_option maxRecDepth 100000 in
theorem rnum_mzero (t : Bs) (w : World) (hl : t.length ≤ 65536) : Calls Tryd.prog 32 #[.string ⟨(45 :: 48 :: t).toArray⟩] w (RNumPost (45 :: 48 :: t) w) := by
  have H := hid (show okDig (45 :: 48 :: t) = false from by
    unfold okDig
    rw [show digitsOf (45 :: 48 :: t) = 48 :: t from rfl]
    cases t with
    | nil => rfl
    | cons x r => simp)
  obtain ⟨sb, hsb⟩ : ∃ sb : ByteArray, (⟨(45 :: 48 :: t).toArray⟩ : ByteArray) = sb := ⟨_, rfl⟩
  obtain ⟨db, hdb⟩ : ∃ db : ByteArray, (⟨(48 :: t).toArray⟩ : ByteArray) = db := ⟨_, rfl⟩
  have hsz : sb.size = t.length + 2 := by rw [← hsb]; simp [ByteArray.size]
  have hdz : db.size = t.length + 1 := by rw [← hdb]; simp [ByteArray.size]
  have hb0 : ∀ h, (sb[0]'h).toNat = 45 := by rw [← hsb]; intro h; rfl
  have hd0 : ∀ h, (db[0]'h).toNat = 48 := by rw [← hdb]; intro h; rfl
  have hex : sb.extract 1 (t.length + 2) = db := by
    rw [← hsb, ← hdb]
    apply ByteArray.ext
    apply Array.ext'
    simp [ByteArray.data_extract]
  have e0 : ¬ db.toList = [] := by rw [← hdb]; simp [ByteArray.toList_mk]
  have e1 : db.toList.isEmpty = false := by simp [e0]
  have e3 : (sb.toList == [48]) = false := by rw [← hsb]; rw [ByteArray.toList_mk, beq_eq_false_iff_ne]; intro h; cases h
  rw [hsb]
  clear hsb hdb
  go_enter Tryd.func32, Tryd.ntmps32
  go_wp2_with fail
  go_ret2
  exact rnum_f H.out rfl
/-- The reference's number. -/
theorem rnumber_any (s : Bs) (w : World) (hl : s.length ≤ 65536) : Calls Tryd.prog 32 #[.string ⟨s.toArray⟩] w (RNumPost s w) := by
  match s, hl with
  | [], _ => exact rnum_none w
  | [b], hl =>
    by_cases h : b.toNat = 45
    · obtain rfl : b = 45 := UInt8.toNat_inj.1 h
      exact rnum_dash w
    · exact rnum_loop_pos b [] w h (fun _ => rfl) (by simp)
  | b :: c :: t, hl =>
    by_cases h : b.toNat = 45
    · obtain rfl : b = 45 := UInt8.toNat_inj.1 h
      by_cases h2 : c.toNat = 48
      · obtain rfl : c = 48 := UInt8.toNat_inj.1 h2
        exact rnum_mzero t w (by simp at hl; omega)
      · exact rnum_loop_neg c t w h2 (by simp at hl; omega)
    · by_cases h2 : b.toNat = 48
      · obtain rfl : b = 48 := UInt8.toNat_inj.1 h2
        exact rnum_zero (c :: t) w (by simp) (by simp at hl ⊢; omega)
      · exact rnum_loop_pos b (c :: t) w h (fun e => absurd e h2) (by simp at hl ⊢; omega)
end Go.Proofs.YtfllhhgnflpagaaDoor
