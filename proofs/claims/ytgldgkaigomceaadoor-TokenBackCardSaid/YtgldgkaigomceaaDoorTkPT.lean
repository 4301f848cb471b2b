/-
  A text that is written word by word, with noise between: its words, read line by line. No program in sight.
-/
import Derived.Test.YtgldgkaigomceaaDoorTkPK
namespace Go.Proofs.YtgldgkaigomceaaDoor
set_option linter.unusedSimpArgs false
set_option linter.unusedVariables false

def sepA : Nat → Bs | 0 => [] | 1 => [32] | 2 => [9] | _ => [9, 32, 9]
def sepE : Nat → Bs | 0 => [] | 1 => [32] | 2 => [35, 120] | _ => [32, 35, 32, 255, 0, 32, 35]
def sepL : Nat → Bs | 0 => [] | 1 => [10] | 2 => [32, 9, 10] | _ => [35, 10]
/-- The text of words from place j of a line on; nz tells the noise. -/
def textR (per : Nat) (nz : Nat → Nat) : List Bs → Nat → Nat → Bs
  | [], _, _ => []
  | w :: ws, j, k => if j + 1 = per then w ++ (sepE (nz (k + 1) % 4) ++ 10 :: (sepL (nz (k + 2) % 4) ++ textR per nz ws 0 (k + 2))) else w ++ (32 :: (sepA (nz (k + 1) % 4) ++ textR per nz ws (j + 1) (k + 1)))
def rowsR (per : Nat) : List Bs → List Bs → Nat → List (List Bs)
  | cur, [], _ => if cur = [] then [] else [cur]
  | cur, w :: ws, j => if j + 1 = per then (cur ++ [w]) :: rowsR per [] ws 0 else rowsR per (cur ++ [w]) ws (j + 1)

/-- The bytes of a word. -/
def plB (c : UInt8) : Bool := decide (33 ≤ c.toNat) && decide (c.toNat ≤ 126) && decide (c.toNat ≠ 35)
theorem plB_pw (c : UInt8) : ∀ d ∈ pw c, plB d = true := by
  intro d hd
  obtain rfl := List.eq_of_mem_replicate hd
  have h := pcN_bd c.toNat
  have : (UInt8.ofNat (pcN c.toNat)).toNat = pcN c.toNat := by
    rw [UInt8.toNat_ofNat']; omega
  simp [plB, this]; omega
theorem plB_bd {c : UInt8} (h : plB c = true) : 33 ≤ c.toNat ∧ c.toNat ≤ 126 ∧ c.toNat ≠ 35 := by
  simp [plB] at h; omega
theorem plB_spec {c : UInt8} (h : plB c = true) : badB c = false ∧ sepB c = false ∧ c ≠ 35 ∧ c ≠ 10 := by
  have := plB_bd h
  refine ⟨?_, ?_, ?_, ?_⟩
  · simp only [badB, Bool.or_eq_false_iff, decide_eq_false_iff_not, UInt8.lt_iff_toNat_lt]
    refine ⟨?_, ?_⟩
    · show ¬ c.toNat < 32; omega
    · show ¬ 126 < c.toNat; omega
  · have h32 : c ≠ 32 := by rintro rfl; simp at this
    have h9 : c ≠ 9 := by rintro rfl; simp at this
    simp [sepB, h32, h9]
  · rintro rfl; simp at this
  · rintro rfl; simp at this

theorem lt_wd (n c : Nat) : ∀ (w r : Bs) (i : Nat) (u : Bs) (acc : List Wd), (∀ d ∈ w, plB d = true) → lt n (w ++ r) i (some (u, c)) acc = lt n r (i + w.length) (some (u ++ w, c)) acc
  | [], r, i, u, acc, _ => by simp
  | d :: w, r, i, u, acc, h => by
    obtain ⟨h1, h2, h3, _⟩ := plB_spec (h d (by simp))
    rw [List.cons_append, lt_cons, if_neg h3, if_neg (by rw [h2]; decide), if_neg (by rw [h1]; decide)]
    show lt n (w ++ r) (i + 1) (some (u ++ [d], c)) acc = _
    rw [lt_wd n c w r (i + 1) (u ++ [d]) acc fun e he => h e (by simp [he])]
    simp only [List.append_assoc, List.cons_append, List.nil_append, List.length_cons]
    rw [show i + 1 + w.length = i + (w.length + 1) by omega]
theorem lt_word (n : Nat) (w r : Bs) (i : Nat) (acc : List Wd) (hw : w ≠ []) (h : ∀ d ∈ w, plB d = true) : lt n (w ++ r) i none acc = lt n r (i + w.length) (some (w, i + 1)) acc := by
  obtain ⟨d, w, rfl⟩ := List.exists_cons_of_ne_nil hw
  obtain ⟨h1, h2, h3, _⟩ := plB_spec (h d (by simp))
  rw [List.cons_append, lt_cons, if_neg h3, if_neg (by rw [h2]; decide), if_neg (by rw [h1]; decide)]
  show lt n (w ++ r) (i + 1) (some ([d], i + 1)) acc = _
  rw [lt_wd n (i + 1) w r (i + 1) [d] acc fun e he => h e (by simp [he])]
  simp only [List.cons_append, List.nil_append, List.length_cons]
  rw [show i + 1 + w.length = i + (w.length + 1) by omega]
theorem lt_sep1 (n : Nat) (c : UInt8) (r : Bs) (i : Nat) (cur : Option (Bs × Nat)) (acc : List Wd) (h : sepB c = true) (h35 : c ≠ 35) : lt n (c :: r) i cur acc = lt n r (i + 1) none (flushW n cur acc) := by
  rw [lt_cons, if_neg h35, if_pos h]
/-- A blank, and more blanks. -/
theorem lt_sepA (n k : Nat) (r : Bs) (i : Nat) (cur : Option (Bs × Nat)) (acc : List Wd) : ∃ i', lt n (32 :: (sepA k ++ r)) i cur acc = lt n r i' none (flushW n cur acc) := by
  rw [lt_sep1 n 32 _ i cur acc (by decide) (by decide)]
  match k with
  | 0 => exact ⟨_, rfl⟩
  | 1 => exact ⟨_, by show lt n (32 :: r) _ none _ = _; rw [lt_sep1 n 32 _ _ _ _ (by decide) (by decide)]; rfl⟩
  | 2 => exact ⟨_, by show lt n (9 :: r) _ none _ = _; rw [lt_sep1 n 9 _ _ _ _ (by decide) (by decide)]; rfl⟩
  | k + 3 => exact ⟨_, by show lt n (9 :: 32 :: 9 :: r) _ none _ = _; rw [lt_sep1 n 9 _ _ _ _ (by decide) (by decide), lt_sep1 n 32 _ _ _ _ (by decide) (by decide), lt_sep1 n 9 _ _ _ _ (by decide) (by decide)]; rfl⟩
/-- The end of a line. -/
theorem lt_sepE (n k : Nat) (i : Nat) (cur : Option (Bs × Nat)) (acc : List Wd) : lt n (sepE k) i cur acc = .ok (flushW n cur acc) := by
  match k with
  | 0 => rfl
  | 1 => show lt n [32] i cur acc = _; rw [lt_sep1 n 32 _ _ _ _ (by decide) (by decide)]; rfl
  | 2 => exact lt_hash n _ _ _ _
  | k + 3 => show lt n (32 :: 35 :: _) i cur acc = _; rw [lt_sep1 n 32 _ _ _ _ (by decide) (by decide), lt_hash]; rfl
theorem sepE_nl (k : Nat) : ∀ d ∈ sepE k, d ≠ 10 := by
  match k with
  | 0 => simp [sepE]
  | 1 => simp [sepE]
  | 2 => simp [sepE]
  | k + 3 => simp [sepE]
theorem sepA_nl (k : Nat) : ∀ d ∈ sepA k, d ≠ 10 := by
  match k with
  | 0 => simp [sepA]
  | 1 => simp [sepA]
  | 2 => simp [sepA]
  | k + 3 => simp [sepA]
/-- Empty lines. -/
theorem ls_sepL (k n : Nat) (r : Bs) (out : List (List Wd)) : ∃ n', ls n (sepL k ++ r) out = ls n' r out := by
  match k with
  | 0 => exact ⟨n, rfl⟩
  | 1 =>
    refine ⟨n + 1, ?_⟩
    show ls n (10 :: r) out = _
    rw [ls, show cutNL (10 :: r) = ([], r, true) from rfl]; rfl
  | 2 =>
    refine ⟨n + 1, ?_⟩
    show ls n ([32, 9] ++ 10 :: r) out = _
    rw [ls, cutNL_at [32, 9] r (by simp)]; rfl
  | k + 3 =>
    refine ⟨n + 1, ?_⟩
    show ls n ([35] ++ 10 :: r) out = _
    rw [ls, cutNL_at [35] r (by simp)]; rfl
theorem cutNL_appT : ∀ (s r : Bs), (∀ d ∈ s, d ≠ 10) → cutNL (s ++ r) = (s ++ (cutNL r).1, (cutNL r).2.1, (cutNL r).2.2)
  | [], r, _ => rfl
  | c :: s, r, h => by
    rw [List.cons_append]
    rw [show cutNL (c :: (s ++ r)) = (if c = 10 then ([], s ++ r, true) else (c :: (cutNL (s ++ r)).1, (cutNL (s ++ r)).2.1, (cutNL (s ++ r)).2.2)) from rfl, if_neg (h c (by simp)), cutNL_appT s r fun d hd => h d (by simp [hd])]
    rfl

/-- Reading goes on in the middle of line n. -/
def lsMid (n : Nat) (s : Bs) (i : Nat) (acc : List Wd) (out : List (List Wd)) : Except (Nat × Nat) (List (List Wd)) :=
  match lt n (cutNL s).1 i none acc with
  | .error e => .error (n, e + 1)
  | .ok ws => if (cutNL s).2.2 = true then ls (n + 1) (cutNL s).2.1 (addL out ws) else .ok (addL out ws)
theorem ls_mid (n : Nat) (s : Bs) (out : List (List Wd)) : ls n s out = lsMid n s 0 [] out := by
  rw [ls]; unfold lsMid
  cases lt n (cutNL s).1 0 none [] with
  | error e => rfl
  | ok ws => by_cases h : (cutNL s).2.2 = true <;> simp [h]
def txts (o : List (List Wd)) : List (List Bs) := o.map (·.map (·.1))
theorem textR_ls (per : Nat) (nz : Nat → Nat) : ∀ (ws : List Bs) (j k n i : Nat) (acc : List Wd) (out : List (List Wd)), (∀ w ∈ ws, w ≠ [] ∧ ∀ d ∈ w, plB d = true) →
    ∃ o, lsMid n (textR per nz ws j k) i acc out = .ok o ∧ txts o = txts out ++ rowsR per (acc.map (·.1)) ws j
  | [], j, k, n, i, acc, out, _ => by
    refine ⟨addL out acc, rfl, ?_⟩
    unfold addL rowsR
    by_cases h : acc = []
    · simp [h]
    · simp [h, txts]
  | w :: ws, j, k, n, i, acc, out, h => by
    obtain ⟨hw, hp⟩ := h w (by simp)
    have hws := fun v hv => h v (List.mem_cons_of_mem w hv)
    have hwn : ∀ d ∈ w, d ≠ 10 := fun d hd => (plB_spec (hp d hd)).2.2.2
    unfold textR rowsR
    by_cases hj : j + 1 = per
    · rw [if_pos hj, if_pos hj]
      have hc : cutNL (w ++ (sepE (nz (k + 1) % 4) ++ 10 :: (sepL (nz (k + 2) % 4) ++ textR per nz ws 0 (k + 2)))) = (w ++ sepE (nz (k + 1) % 4), sepL (nz (k + 2) % 4) ++ textR per nz ws 0 (k + 2), true) := by
        rw [← List.append_assoc]
        exact cutNL_at _ _ fun d hd => by
          rcases List.mem_append.1 hd with hd | hd
          · exact hwn d hd
          · exact sepE_nl _ d hd
      unfold lsMid
      rw [hc]
      simp only [lt_word n w _ i acc hw hp, lt_sepE]
      obtain ⟨n', hn'⟩ := ls_sepL (nz (k + 2) % 4) (n + 1) (textR per nz ws 0 (k + 2)) (addL out (flushW n (some (w, i + 1)) acc))
      rw [if_pos trivial, hn', ls_mid]
      obtain ⟨o, h1, h2⟩ := textR_ls per nz ws 0 (k + 2) n' 0 [] (addL out (flushW n (some (w, i + 1)) acc)) hws
      refine ⟨o, h1, ?_⟩
      rw [h2]
      have e : addL out (flushW n (some (w, i + 1)) acc) = out ++ [acc ++ [(w, n, i + 1)]] := by simp [addL, flushW]
      rw [e]
      simp [txts]
    · rw [if_neg hj, if_neg hj]
      have hc : cutNL (w ++ (32 :: (sepA (nz (k + 1) % 4) ++ textR per nz ws (j + 1) (k + 1)))) = (w ++ (32 :: (sepA (nz (k + 1) % 4) ++ (cutNL (textR per nz ws (j + 1) (k + 1))).1)), (cutNL (textR per nz ws (j + 1) (k + 1))).2.1, (cutNL (textR per nz ws (j + 1) (k + 1))).2.2) := by
        have := cutNL_appT (w ++ (32 :: sepA (nz (k + 1) % 4))) (textR per nz ws (j + 1) (k + 1)) (fun d hd => by
          rcases List.mem_append.1 hd with hd | hd
          · exact hwn d hd
          · rcases List.mem_cons.1 hd with rfl | hd
            · decide
            · exact sepA_nl _ d hd)
        simpa using this
      unfold lsMid
      rw [hc]
      obtain ⟨i', hi'⟩ := lt_sepA n (nz (k + 1) % 4) (cutNL (textR per nz ws (j + 1) (k + 1))).1 (i + w.length) (some (w, i + 1)) acc
      simp only [lt_word n w _ i acc hw hp, hi']
      obtain ⟨o, h1, h2⟩ := textR_ls per nz ws (j + 1) (k + 1) n i' (acc ++ [(w, n, i + 1)]) out hws
      refine ⟨o, h1, ?_⟩
      rw [h2]
      simp

theorem rowsR_nil (per : Nat) : ∀ (ws : List Bs) (cur : List Bs) (j : Nat), rowsR per cur ws j = [] → cur = [] ∧ ws = []
  | [], cur, j, h => by
    unfold rowsR at h
    split at h
    · rename_i e; exact ⟨e, rfl⟩
    · cases h
  | w :: ws, cur, j, h => by
    unfold rowsR at h
    split at h
    · cases h
    · have := rowsR_nil per ws (cur ++ [w]) (j + 1) h
      simp at this
/-- Row i has the words from place i * per on. -/
theorem rowsR_at (per : Nat) (hper : 0 < per) : ∀ (ws cur : List Bs) (j : Nat), cur.length = j → j < per → ∀ (i : Nat) (hi : i < (rowsR per cur ws j).length),
    (∀ (k : Nat) (hk : k < (rowsR per cur ws j)[i].length), k < per ∧ (cur ++ ws)[i * per + k]? = some (rowsR per cur ws j)[i][k]) ∧
    (i + 1 < (rowsR per cur ws j).length → (rowsR per cur ws j)[i].length = per) ∧ (i + 1 = (rowsR per cur ws j).length → i * per + (rowsR per cur ws j)[i].length = cur.length + ws.length)
  | [], cur, j, hc, hj, i, hi => by
    by_cases h : cur = []
    · have e : rowsR per cur [] j = [] := by unfold rowsR; rw [if_pos h]
      rw [e] at hi; simp at hi
    · have e : rowsR per cur [] j = [cur] := by unfold rowsR; rw [if_neg h]
      simp only [e, List.length_cons, List.length_nil] at hi ⊢
      obtain rfl : i = 0 := by omega
      refine ⟨fun k hk => ?_, fun h => by omega, fun _ => by simp⟩
      simp only [List.getElem_cons_zero] at hk ⊢
      exact ⟨by omega, by rw [List.append_nil, Nat.zero_mul, Nat.zero_add]; exact List.getElem?_eq_getElem hk⟩
  | w :: ws, cur, j, hc, hj, i, hi => by
    by_cases h : j + 1 = per
    · have e : rowsR per cur (w :: ws) j = (cur ++ [w]) :: rowsR per [] ws 0 := by rw [rowsR, if_pos h]
      have hlen : (cur ++ [w]).length = per := by rw [List.length_append, hc]; exact h
      have hcat : cur ++ w :: ws = (cur ++ [w]) ++ ws := by simp
      simp only [e] at hi ⊢
      cases i with
      | zero =>
        refine ⟨fun k hk => ?_, fun _ => hlen, fun he => ?_⟩
        · simp only [List.getElem_cons_zero] at hk ⊢
          refine ⟨by omega, ?_⟩
          rw [hcat, Nat.zero_mul, Nat.zero_add, List.getElem?_append_left hk]
          exact List.getElem?_eq_getElem hk
        · have h0 : rowsR per [] ws 0 = [] := List.eq_nil_of_length_eq_zero (by rw [List.length_cons] at he; omega)
          have hw := (rowsR_nil per ws [] 0 h0).2
          simp only [List.getElem_cons_zero, hw, List.length_append, List.length_cons, List.length_nil]
          omega
      | succ i =>
        have hi' : i < (rowsR per [] ws 0).length := by simpa using hi
        obtain ⟨g1, g2, g3⟩ := rowsR_at per hper ws [] 0 rfl hper i hi'
        simp only [List.getElem_cons_succ]
        refine ⟨fun k hk => ?_, fun he => g2 (by simpa using he), fun he => ?_⟩
        · obtain ⟨a, b⟩ := g1 k hk
          refine ⟨a, ?_⟩
          rw [List.nil_append] at b
          rw [hcat, List.getElem?_append_right (by rw [hlen, Nat.succ_mul]; omega), hlen, show (i + 1) * per + k - per = i * per + k by rw [Nat.succ_mul]; omega]
          exact b
        · have := g3 (by simpa using he)
          simp only [List.length_nil, List.length_cons] at this ⊢
          rw [Nat.succ_mul]
          omega
    · have e : rowsR per cur (w :: ws) j = rowsR per (cur ++ [w]) ws (j + 1) := by rw [rowsR, if_neg h]
      have hcat : cur ++ w :: ws = (cur ++ [w]) ++ ws := by simp
      simp only [e] at hi ⊢
      obtain ⟨g1, g2, g3⟩ := rowsR_at per hper ws (cur ++ [w]) (j + 1) (by simp [hc]) (by omega) i hi
      refine ⟨fun k hk => ?_, g2, fun he => ?_⟩
      · rw [hcat]; exact g1 k hk
      · rw [g3 he]; simp; omega

theorem sepA_len (k : Nat) : (sepA k).length ≤ 3 := by match k with | 0 => simp [sepA] | 1 => simp [sepA] | 2 => simp [sepA] | k + 3 => simp [sepA]
theorem sepE_len (k : Nat) : (sepE k).length ≤ 7 := by match k with | 0 => simp [sepE] | 1 => simp [sepE] | 2 => simp [sepE] | k + 3 => simp [sepE]
theorem sepL_len (k : Nat) : (sepL k).length ≤ 3 := by match k with | 0 => simp [sepL] | 1 => simp [sepL] | 2 => simp [sepL] | k + 3 => simp [sepL]
theorem textR_len (per : Nat) (nz : Nat → Nat) : ∀ (ws : List Bs) (j k : Nat), (∀ w ∈ ws, w.length ≤ 3) → (textR per nz ws j k).length ≤ 14 * ws.length
  | [], j, k, _ => by simp [textR]
  | w :: ws, j, k, h => by
    have h1 := h w (by simp)
    have h2 := fun j k => textR_len per nz ws j k fun v hv => h v (by simp [hv])
    have a := sepA_len (nz (k + 1) % 4)
    have b := sepE_len (nz (k + 1) % 4)
    have c := sepL_len (nz (k + 2) % 4)
    unfold textR
    split
    · have := h2 0 (k + 2)
      simp only [List.length_append, List.length_cons]; omega
    · have := h2 (j + 1) (k + 1)
      simp only [List.length_append, List.length_cons]; omega

/-- What the law asks of the lines of words. -/
structure BackOk (words : List Bs) (per : Nat) (rows : List Bs) (o : List (List Wd)) : Prop where
  word : ∀ i (hi : i < o.length) k (hk : k < o[i].length), k < per ∧ ∃ h : i * per + k < words.length, o[i][k].1 = words[i * per + k]
  fin : ∀ i (hi : i < o.length), (i + 1 < o.length → o[i].length = per) ∧ (i + 1 = o.length → i * per + o[i].length = words.length)
  nil : o.length = 0 → words.length = 0
  ne : ∀ i (hi : i < o.length), 0 < o[i].length
  pos : ∀ i (hi : i < o.length) k (hk : k < o[i].length), ∃ j, ∃ h : j < rows.length, o[i][k].2.1 = 1 + j ∧ 1 ≤ o[i][k].2.2 ∧ o[i][k].1 <+: rows[j].drop (o[i][k].2.2 - 1)
  line : ∀ i (hi : i < o.length), ∃ L, 1 ≤ L ∧ ∀ k (hk : k < o[i].length), o[i][k].2.1 = L
  inc : ∀ i (hi : i < o.length) k k' (hk : k < o[i].length) (hk' : k' < o[i].length), k < k' → o[i][k].2.2 < o[i][k'].2.2
  up : ∀ i j (hi : i < o.length) (hj : j < o.length) k k' (hk : k < o[i].length) (hk' : k' < o[j].length), i < j → o[i][k].2.1 < o[j][k'].2.1
theorem back_ok (per : Nat) (hper : 0 < per) (nz : Nat → Nat) (words : List Bs) (hw : ∀ w ∈ words, w ≠ [] ∧ ∀ d ∈ w, plB d = true) : ∃ o, tok (textR per nz words 0 0) = .ok o ∧ BackOk words per (rowsNL (textR per nz words 0 0)) o := by
  obtain ⟨o, h1, h2⟩ := textR_ls per nz words 0 0 1 0 [] [] hw
  rw [← ls_mid] at h1
  have h1 : tok (textR per nz words 0 0) = .ok o := h1
  refine ⟨o, h1, ?_⟩
  obtain ⟨g1, g2⟩ := tok_spec _ o h1
  have h2 : txts o = rowsR per [] words 0 := by simpa [txts] using h2
  have hlen : o.length = (rowsR per [] words 0).length := by rw [← h2]; simp [txts]
  have hrow : ∀ i (hi : i < o.length) (hi' : i < (rowsR per [] words 0).length), (rowsR per [] words 0)[i] = o[i].map (·.1) := fun i hi hi' => by
    have : (txts o)[i]? = (rowsR per [] words 0)[i]? := by rw [h2]
    rw [List.getElem?_eq_getElem hi', List.getElem?_eq_getElem (by simpa [txts] using hi)] at this
    simpa [txts] using this.symm
  have hat := fun i (hi : i < o.length) => rowsR_at per hper words [] 0 rfl hper i (by omega)
  refine ⟨fun i hi k hk => ?_, fun i hi => ?_, fun h => ?_, fun i hi => ?_, fun i hi k hk => ?_, fun i hi => ?_, fun i hi k k' hk hk' hlt => ?_, fun i j hi hj k k' hk hk' hlt => ?_⟩
  · obtain ⟨a, b⟩ := (hat i hi).1 k (by rw [hrow i hi]; simpa using hk)
    refine ⟨a, ?_⟩
    rw [List.nil_append] at b
    obtain ⟨hb, hb2⟩ := List.getElem?_eq_some_iff.1 b
    refine ⟨hb, ?_⟩
    rw [hb2]
    simp only [hrow i hi (by omega), List.getElem_map]
  · obtain ⟨_, b, c⟩ := hat i hi
    rw [hrow i hi, ← hlen] at b c
    simpa using And.intro b c
  · have h0 : rowsR per [] words 0 = [] := List.eq_nil_of_length_eq_zero (by omega)
    rw [(rowsR_nil per words [] 0 h0).2]; rfl
  · exact List.length_pos_iff.2 (g1 _ (List.getElem_mem hi)).ne
  · obtain ⟨j, hj, hx⟩ := (g1 _ (List.getElem_mem hi)).at'
    obtain ⟨a, b, c⟩ := hx _ (List.getElem_mem hk)
    exact ⟨j, hj, a, b, c⟩
  · obtain ⟨L, hL, hx⟩ := (g1 _ (List.getElem_mem hi)).line
    exact ⟨L, hL, fun k hk => hx _ (List.getElem_mem hk)⟩
  · exact List.pairwise_iff_getElem.1 (g1 _ (List.getElem_mem hi)).inc k k' hk hk' hlt
  · exact List.pairwise_iff_getElem.1 g2 i j hi hj hlt _ (List.getElem_mem hk) _ (List.getElem_mem hk')
end Go.Proofs.YtgldgkaigomceaaDoor
