/- What is written is read as it was: the plain law of an act's line. Printed by gen_lnrt.py. -/
import Derived.Test.YteennbdakjjcfaaDoorLnLP
set_option linter.unusedVariables false
set_option linter.unusedSimpArgs false
namespace Go.Proofs.YteennbdakjjcfaaDoor
open Go Go.RowKit Go.Lib
/-- a word: not empty, without a blank, a new line, a remark's sign -/
def Cw (x : List UInt8) : Prop := x ≠ [] ∧ ∀ c ∈ x, c ≠ 32 ∧ c ≠ 9 ∧ c ≠ 10 ∧ c ≠ 35
theorem digit_cw (n : Nat) : UInt8.ofNat (48 + n % 10) ≠ 32 ∧ UInt8.ofNat (48 + n % 10) ≠ 9 ∧ UInt8.ofNat (48 + n % 10) ≠ 10 ∧ UInt8.ofNat (48 + n % 10) ≠ 35 := by
  have : ∀ m : Nat, m < 10 → UInt8.ofNat (48 + m) ≠ 32 ∧ UInt8.ofNat (48 + m) ≠ 9 ∧ UInt8.ofNat (48 + m) ≠ 10 ∧ UInt8.ofNat (48 + m) ≠ 35 := by decide
  exact this _ (Nat.mod_lt _ (by decide))
theorem digit_dig (n : Nat) : isDig (UInt8.ofNat (48 + n % 10)) = true ∧ (UInt8.ofNat (48 + n % 10)).toNat - 48 = n % 10 := by
  have : ∀ m : Nat, m < 10 → isDig (UInt8.ofNat (48 + m)) = true ∧ (UInt8.ofNat (48 + m)).toNat - 48 = m := by decide
  exact this _ (Nat.mod_lt _ (by decide))
theorem numDf_cw : ∀ f n, Cw (numDf f n)
  | 0, n => ⟨by simp [numDf], fun c hc => by simp only [numDf, List.mem_singleton] at hc; subst hc; exact digit_cw n⟩
  | f + 1, n => by
    unfold numDf
    split
    · exact ⟨by simp, fun c hc => by rw [List.mem_singleton] at hc; subst hc; exact digit_cw n⟩
    · obtain ⟨h1, h2⟩ := numDf_cw f (n / 10)
      refine ⟨by simp, fun c hc => ?_⟩
      rcases List.mem_append.1 hc with hc | hc
      · exact h2 c hc
      · rw [List.mem_singleton] at hc; subst hc; exact digit_cw n
theorem numDf_dec : ∀ f n, n < 10 ^ (f + 1) → (numDf f n).all isDig = true ∧ decN (numDf f n) 0 = n ∧ 1 ≤ (numDf f n).length
  | 0, n, h => by
    obtain ⟨h1, h2⟩ := digit_dig n
    unfold numDf
    refine ⟨by show (isDig _ && true) = true; rw [h1]; rfl, ?_, by simp⟩
    show 10 * 0 + _ = n
    rw [h2]; simp at h; omega
  | f + 1, n, h => by
    obtain ⟨h1, h2⟩ := digit_dig n
    unfold numDf
    split
    · refine ⟨by show (isDig _ && true) = true; rw [h1]; rfl, ?_, by simp⟩
      show 10 * 0 + _ = n
      rw [h2]; omega
    · obtain ⟨k1, k2, k3⟩ := numDf_dec f (n / 10) (by rw [Nat.pow_succ] at h; omega)
      refine ⟨by rw [List.all_append, k1]; show (true && (isDig _ && true)) = true; rw [h1]; rfl, ?_, by simp⟩
      rw [decN_snoc, k2, h2]; omega
theorem numW_numD (n : Nat) (h : n ≤ 65535) : numW (numD n) = some n := by
  obtain ⟨h1, h2, h3⟩ := numDf_dec 4 n (by omega)
  unfold numW numD
  rw [if_pos ⟨h3, numDf_len 4 n, h1, by rw [h2]; exact h⟩, h2]
theorem sign_hex : ∀ d : Nat, d < 16 → hexD (UInt8.ofNat (signN d)) = some d ∧ UInt8.ofNat (signN d) ≠ 32 ∧ UInt8.ofNat (signN d) ≠ 9 ∧ UInt8.ofNat (signN d) ≠ 10 ∧ UInt8.ofNat (signN d) ≠ 35 := by decide +kernel
theorem hexB_cons (c : Nat) (b : List Nat) : (hexB (c :: b)).map UInt8.ofNat = UInt8.ofNat (signN (c / 16)) :: UInt8.ofNat (signN (c % 16)) :: (hexB b).map UInt8.ofNat := by
  unfold hexB; rw [List.flatMap_cons]; rfl
theorem hexP_back : ∀ b : List Nat, (∀ x ∈ b, x < 256) → hexP ((hexB b).map UInt8.ofNat) = some b
  | [], _ => rfl
  | c :: b, h => by
    have hc := h c (List.mem_cons_self ..)
    have ih := hexP_back b (fun x hx => h x (List.mem_cons_of_mem _ hx))
    rw [hexB_cons]
    unfold hexP
    rw [(sign_hex (c / 16) (by omega)).1, (sign_hex (c % 16) (by omega)).1, ih]
    show some (_ :: _) = _
    congr 2
    omega
theorem hexW_back (b : List Nat) (h : ∀ x ∈ b, x < 256) : hexW (hexS b) = some b := by
  unfold hexS
  by_cases hb : b = []
  · rw [if_pos hb, hb]; rfl
  · rw [if_neg hb]
    obtain ⟨c, t, rfl⟩ := List.exists_cons_of_ne_nil hb
    rw [hexW_of, hexP_back _ h]
    · rw [hexB_cons]; intro e; injection e with _ e; cases e
    · rw [hexB_cons]; intro e; cases e
theorem hexS_cw (b : List Nat) (h : ∀ x ∈ b, x < 256) : Cw (hexS b) := by
  unfold hexS
  by_cases hb : b = []
  · rw [if_pos hb]; exact ⟨by simp, by decide⟩
  · rw [if_neg hb]
    refine ⟨fun e => ?_, fun c hc => ?_⟩
    · obtain ⟨c, t, rfl⟩ := List.exists_cons_of_ne_nil hb
      rw [hexB_cons] at e; cases e
    · rw [List.mem_map] at hc
      obtain ⟨d, hd, rfl⟩ := hc
      unfold hexB at hd
      rw [List.mem_flatMap] at hd
      obtain ⟨x, hx, hd⟩ := hd
      have := h x hx
      simp only [List.mem_cons, List.not_mem_nil, or_false] at hd
      rcases hd with rfl | rfl
      · exact (sign_hex (x / 16) (by omega)).2
      · exact (sign_hex (x % 16) (by omega)).2
theorem name_cw : ∀ k : Nat, k < 20 → nameK k ≠ [] ∧ ∀ c ∈ nameK k, c ≠ 32 ∧ c ≠ 9 ∧ c ≠ 10 ∧ c ≠ 35 := by decide +kernel
theorem wordA_cw (a : AN) (hb : ∀ x ∈ a.b, x < 256) (c : Nat) (hc : c = 119 ∨ c = 107 ∨ c = 110 ∨ c = 97 ∨ c = 98 ∨ c = 111 ∨ c = 115) : Cw (wordA a c) := by
  unfold wordA
  rcases hc with rfl | rfl | rfl | rfl | rfl | rfl | rfl
  · exact numDf_cw _ _
  · exact numDf_cw _ _
  · exact numDf_cw _ _
  · exact numDf_cw _ _
  · exact hexS_cw _ hb
  · show Cw (if a.yes then [119, 114, 105, 116, 101] else [114, 101, 97, 100])
    cases a.yes with
    | true => exact ⟨by simp, by decide⟩
    | false => exact ⟨by simp, by decide⟩
  · show Cw (if a.yes then [110, 111, 110, 101] else numD a.which.toNat)
    cases a.yes with
    | true => show Cw [110, 111, 110, 101]; exact ⟨by simp, by decide⟩
    | false => exact numDf_cw _ _
/-- an act's words but the first one -/
def wordsF (a : AN) (f : List UInt8) : List (List UInt8) := f.map fun c => wordA a c.toNat
theorem t119 (a : AN) (n : Nat) (h : n ≤ 65535) : takeN a 119 (numD n) = some { a with which := (n : Int) } := by
  show (numW (numD n)).map (fun (v : Nat) => { a with which := (v : Int) }) = _; rw [numW_numD n h]; rfl
theorem t107 (a : AN) (n : Nat) (h : n ≤ 65535) : takeN a 107 (numD n) = some { a with k := (n : Int) } := by
  show (numW (numD n)).map (fun (v : Nat) => { a with k := (v : Int) }) = _; rw [numW_numD n h]; rfl
theorem t110 (a : AN) (n : Nat) (h : n ≤ 65535) : takeN a 110 (numD n) = some { a with n := (n : Int) } := by
  show (numW (numD n)).map (fun (v : Nat) => { a with n := (v : Int) }) = _; rw [numW_numD n h]; rfl
theorem t97 (a : AN) (n : Nat) (h : n ≤ 65535) : takeN a 97 (numD n) = some { a with at_ := (n : Int) } := by
  show (numW (numD n)).map (fun (v : Nat) => { a with at_ := (v : Int) }) = _; rw [numW_numD n h]; rfl
theorem t98 (a : AN) (b : List Nat) (h : ∀ x ∈ b, x < 256) : takeN a 98 (hexS b) = some { a with b := b } := by
  show (hexW (hexS b)).map (fun v => { a with b := v }) = _; rw [hexW_back b h]; rfl
theorem t111 (a : AN) (y : Bool) : takeN a 111 (if y then [119, 114, 105, 116, 101] else [114, 101, 97, 100]) = some { a with yes := y } := by
  cases y <;> rfl
theorem numD_none (n : Nat) : numD n ≠ noneW := by
  intro e
  have h := (numDf_cw 4 n).2
  have : (110 : UInt8) ∈ numD n := by rw [e]; decide
  have hd : ∀ f m, ∀ c ∈ numDf f m, isDig c = true := by
    intro f
    induction f with
    | zero => intro m c hc; simp only [numDf, List.mem_singleton] at hc; subst hc; exact (digit_dig m).1
    | succ f ih =>
      intro m c hc
      unfold numDf at hc
      split at hc
      · rw [List.mem_singleton] at hc; subst hc; exact (digit_dig m).1
      · rcases List.mem_append.1 hc with hc | hc
        · exact ih _ c hc
        · rw [List.mem_singleton] at hc; subst hc; exact (digit_dig m).1
  have := hd 4 n _ this
  revert this
  decide
theorem t115n (a : AN) (n : Nat) (h : n ≤ 65535) : takeN a 115 (numD n) = some { a with yes := false, which := (n : Int) } := by
  show (if numD n = noneW then some { a with yes := true } else (numW (numD n)).map (fun (v : Nat) => { a with yes := false, which := (v : Int) })) = _
  rw [if_neg (numD_none n), numW_numD n h]; rfl
theorem t115y (a : AN) : takeN a 115 [110, 111, 110, 101] = some { a with yes := true } := rfl
theorem lack_of {a : AN} {k : Nat} (hm : mayL a = true) (hk : a.kind = (k : Int) := by rfl) : lackF k a a.b.length = true := by
  unfold mayL mayA at hm
  simp only [Bool.and_eq_true, decide_eq_true_eq] at hm
  obtain ⟨⟨_, _, hm⟩, _⟩ := hm
  rw [may_lack _ _ _ rfl] at hm
  simp only [Bool.and_eq_true] at hm
  have := hm.2.2.2.2
  rw [show a.kind.toNat = k by omega] at this
  exact this
theorem back_0 (ye : Bool) (n1 n2 n3 n4 : Nat) (b : List Nat) (h1 : n1 ≤ 65535) (h2 : n2 ≤ 65535) (h3 : n3 ≤ 65535) (h4 : n4 ≤ 65535) (hb : ∀ x ∈ b, x < 256) (hm : mayL ⟨0, ye, (n1 : Int), (n2 : Int), (n3 : Int), (n4 : Int), b⟩ = true) :
    foldN (some (startA 0, wordsF ⟨0, ye, (n1 : Int), (n2 : Int), (n3 : Int), (n4 : Int), b⟩ (orderK 0))) (orderK 0) = some (⟨0, ye, (n1 : Int), (n2 : Int), (n3 : Int), (n4 : Int), b⟩, []) := by
  have hl : lackF 0 ⟨0, ye, (n1 : Int), (n2 : Int), (n3 : Int), (n4 : Int), b⟩ b.length = true := lack_of hm
  simp [lackF, hasK, fieldsK] at hl
  obtain ⟨rfl, rfl, rfl, rfl, rfl, rfl⟩ := hl
  show some (startA 0, []) = _
  rfl
theorem back_1 (ye : Bool) (n1 n2 n3 n4 : Nat) (b : List Nat) (h1 : n1 ≤ 65535) (h2 : n2 ≤ 65535) (h3 : n3 ≤ 65535) (h4 : n4 ≤ 65535) (hb : ∀ x ∈ b, x < 256) (hm : mayL ⟨1, ye, (n1 : Int), (n2 : Int), (n3 : Int), (n4 : Int), b⟩ = true) :
    foldN (some (startA 1, wordsF ⟨1, ye, (n1 : Int), (n2 : Int), (n3 : Int), (n4 : Int), b⟩ (orderK 1))) (orderK 1) = some (⟨1, ye, (n1 : Int), (n2 : Int), (n3 : Int), (n4 : Int), b⟩, []) := by
  have hl : lackF 1 ⟨1, ye, (n1 : Int), (n2 : Int), (n3 : Int), (n4 : Int), b⟩ b.length = true := lack_of hm
  simp [lackF, hasK, fieldsK] at hl
  obtain ⟨rfl, rfl, rfl, rfl, rfl⟩ := hl
  show stepN (some (startA 1, [(if ye then [119, 114, 105, 116, 101] else [114, 101, 97, 100])])) 111 = _
  rw [stepN_some, t111 _ ye, Option.map_some]
  rfl
theorem back_2 (ye : Bool) (n1 n2 n3 n4 : Nat) (b : List Nat) (h1 : n1 ≤ 65535) (h2 : n2 ≤ 65535) (h3 : n3 ≤ 65535) (h4 : n4 ≤ 65535) (hb : ∀ x ∈ b, x < 256) (hm : mayL ⟨2, ye, (n1 : Int), (n2 : Int), (n3 : Int), (n4 : Int), b⟩ = true) :
    foldN (some (startA 2, wordsF ⟨2, ye, (n1 : Int), (n2 : Int), (n3 : Int), (n4 : Int), b⟩ (orderK 2))) (orderK 2) = some (⟨2, ye, (n1 : Int), (n2 : Int), (n3 : Int), (n4 : Int), b⟩, []) := by
  have hl : lackF 2 ⟨2, ye, (n1 : Int), (n2 : Int), (n3 : Int), (n4 : Int), b⟩ b.length = true := lack_of hm
  simp [lackF, hasK, fieldsK] at hl
  obtain ⟨rfl, rfl, rfl, rfl, rfl, rfl⟩ := hl
  show some (startA 2, []) = _
  rfl
theorem back_3 (ye : Bool) (n1 n2 n3 n4 : Nat) (b : List Nat) (h1 : n1 ≤ 65535) (h2 : n2 ≤ 65535) (h3 : n3 ≤ 65535) (h4 : n4 ≤ 65535) (hb : ∀ x ∈ b, x < 256) (hm : mayL ⟨3, ye, (n1 : Int), (n2 : Int), (n3 : Int), (n4 : Int), b⟩ = true) :
    foldN (some (startA 3, wordsF ⟨3, ye, (n1 : Int), (n2 : Int), (n3 : Int), (n4 : Int), b⟩ (orderK 3))) (orderK 3) = some (⟨3, ye, (n1 : Int), (n2 : Int), (n3 : Int), (n4 : Int), b⟩, []) := by
  have hl : lackF 3 ⟨3, ye, (n1 : Int), (n2 : Int), (n3 : Int), (n4 : Int), b⟩ b.length = true := lack_of hm
  simp [lackF, hasK, fieldsK] at hl
  obtain ⟨rfl, rfl, rfl, rfl, rfl, rfl⟩ := hl
  show some (startA 3, []) = _
  rfl
theorem back_4 (ye : Bool) (n1 n2 n3 n4 : Nat) (b : List Nat) (h1 : n1 ≤ 65535) (h2 : n2 ≤ 65535) (h3 : n3 ≤ 65535) (h4 : n4 ≤ 65535) (hb : ∀ x ∈ b, x < 256) (hm : mayL ⟨4, ye, (n1 : Int), (n2 : Int), (n3 : Int), (n4 : Int), b⟩ = true) :
    foldN (some (startA 4, wordsF ⟨4, ye, (n1 : Int), (n2 : Int), (n3 : Int), (n4 : Int), b⟩ (orderK 4))) (orderK 4) = some (⟨4, ye, (n1 : Int), (n2 : Int), (n3 : Int), (n4 : Int), b⟩, []) := by
  have hl : lackF 4 ⟨4, ye, (n1 : Int), (n2 : Int), (n3 : Int), (n4 : Int), b⟩ b.length = true := lack_of hm
  simp [lackF, hasK, fieldsK] at hl
  obtain ⟨rfl, rfl, rfl, rfl, rfl, rfl⟩ := hl
  show some (startA 4, []) = _
  rfl
theorem back_5 (ye : Bool) (n1 n2 n3 n4 : Nat) (b : List Nat) (h1 : n1 ≤ 65535) (h2 : n2 ≤ 65535) (h3 : n3 ≤ 65535) (h4 : n4 ≤ 65535) (hb : ∀ x ∈ b, x < 256) (hm : mayL ⟨5, ye, (n1 : Int), (n2 : Int), (n3 : Int), (n4 : Int), b⟩ = true) :
    foldN (some (startA 5, wordsF ⟨5, ye, (n1 : Int), (n2 : Int), (n3 : Int), (n4 : Int), b⟩ (orderK 5))) (orderK 5) = some (⟨5, ye, (n1 : Int), (n2 : Int), (n3 : Int), (n4 : Int), b⟩, []) := by
  have hl : lackF 5 ⟨5, ye, (n1 : Int), (n2 : Int), (n3 : Int), (n4 : Int), b⟩ b.length = true := lack_of hm
  simp [lackF, hasK, fieldsK] at hl
  obtain ⟨rfl, rfl, rfl, rfl, rfl, rfl⟩ := hl
  show some (startA 5, []) = _
  rfl
theorem back_6 (ye : Bool) (n1 n2 n3 n4 : Nat) (b : List Nat) (h1 : n1 ≤ 65535) (h2 : n2 ≤ 65535) (h3 : n3 ≤ 65535) (h4 : n4 ≤ 65535) (hb : ∀ x ∈ b, x < 256) (hm : mayL ⟨6, ye, (n1 : Int), (n2 : Int), (n3 : Int), (n4 : Int), b⟩ = true) :
    foldN (some (startA 6, wordsF ⟨6, ye, (n1 : Int), (n2 : Int), (n3 : Int), (n4 : Int), b⟩ (orderK 6))) (orderK 6) = some (⟨6, ye, (n1 : Int), (n2 : Int), (n3 : Int), (n4 : Int), b⟩, []) := by
  have hl : lackF 6 ⟨6, ye, (n1 : Int), (n2 : Int), (n3 : Int), (n4 : Int), b⟩ b.length = true := lack_of hm
  simp [lackF, hasK, fieldsK] at hl
  obtain ⟨rfl, rfl, rfl, rfl, rfl⟩ := hl
  show stepN (some (startA 6, [numD n3])) 110 = _
  rw [stepN_some, t110 _ n3 h3, Option.map_some]
  rfl
theorem back_7 (ye : Bool) (n1 n2 n3 n4 : Nat) (b : List Nat) (h1 : n1 ≤ 65535) (h2 : n2 ≤ 65535) (h3 : n3 ≤ 65535) (h4 : n4 ≤ 65535) (hb : ∀ x ∈ b, x < 256) (hm : mayL ⟨7, ye, (n1 : Int), (n2 : Int), (n3 : Int), (n4 : Int), b⟩ = true) :
    foldN (some (startA 7, wordsF ⟨7, ye, (n1 : Int), (n2 : Int), (n3 : Int), (n4 : Int), b⟩ (orderK 7))) (orderK 7) = some (⟨7, ye, (n1 : Int), (n2 : Int), (n3 : Int), (n4 : Int), b⟩, []) := by
  have hl : lackF 7 ⟨7, ye, (n1 : Int), (n2 : Int), (n3 : Int), (n4 : Int), b⟩ b.length = true := lack_of hm
  simp [lackF, hasK, fieldsK] at hl
  obtain ⟨rfl, rfl, rfl, rfl, rfl⟩ := hl
  show stepN (some (startA 7, [numD n1])) 119 = _
  rw [stepN_some, t119 _ n1 h1, Option.map_some]
  rfl
theorem back_8 (ye : Bool) (n1 n2 n3 n4 : Nat) (b : List Nat) (h1 : n1 ≤ 65535) (h2 : n2 ≤ 65535) (h3 : n3 ≤ 65535) (h4 : n4 ≤ 65535) (hb : ∀ x ∈ b, x < 256) (hm : mayL ⟨8, ye, (n1 : Int), (n2 : Int), (n3 : Int), (n4 : Int), b⟩ = true) :
    foldN (some (startA 8, wordsF ⟨8, ye, (n1 : Int), (n2 : Int), (n3 : Int), (n4 : Int), b⟩ (orderK 8))) (orderK 8) = some (⟨8, ye, (n1 : Int), (n2 : Int), (n3 : Int), (n4 : Int), b⟩, []) := by
  have hl : lackF 8 ⟨8, ye, (n1 : Int), (n2 : Int), (n3 : Int), (n4 : Int), b⟩ b.length = true := lack_of hm
  simp [lackF, hasK, fieldsK] at hl
  obtain ⟨rfl, rfl, rfl, rfl⟩ := hl
  show stepN (stepN (some (startA 8, [numD n1, numD n3])) 119) 110 = _
  rw [stepN_some, t119 _ n1 h1, Option.map_some]
  rw [stepN_some, t110 _ n3 h3, Option.map_some]
  rfl
theorem back_9 (ye : Bool) (n1 n2 n3 n4 : Nat) (b : List Nat) (h1 : n1 ≤ 65535) (h2 : n2 ≤ 65535) (h3 : n3 ≤ 65535) (h4 : n4 ≤ 65535) (hb : ∀ x ∈ b, x < 256) (hm : mayL ⟨9, ye, (n1 : Int), (n2 : Int), (n3 : Int), (n4 : Int), b⟩ = true) :
    foldN (some (startA 9, wordsF ⟨9, ye, (n1 : Int), (n2 : Int), (n3 : Int), (n4 : Int), b⟩ (orderK 9))) (orderK 9) = some (⟨9, ye, (n1 : Int), (n2 : Int), (n3 : Int), (n4 : Int), b⟩, []) := by
  have hl : lackF 9 ⟨9, ye, (n1 : Int), (n2 : Int), (n3 : Int), (n4 : Int), b⟩ b.length = true := lack_of hm
  simp [lackF, hasK, fieldsK] at hl
  obtain ⟨rfl, rfl, rfl⟩ := hl
  show stepN (stepN (stepN (some (startA 9, [numD n1, numD n4, hexS b])) 119) 97) 98 = _
  rw [stepN_some, t119 _ n1 h1, Option.map_some]
  rw [stepN_some, t97 _ n4 h4, Option.map_some]
  rw [stepN_some, t98 _ b hb, Option.map_some]
  rfl
theorem back_10 (ye : Bool) (n1 n2 n3 n4 : Nat) (b : List Nat) (h1 : n1 ≤ 65535) (h2 : n2 ≤ 65535) (h3 : n3 ≤ 65535) (h4 : n4 ≤ 65535) (hb : ∀ x ∈ b, x < 256) (hm : mayL ⟨10, ye, (n1 : Int), (n2 : Int), (n3 : Int), (n4 : Int), b⟩ = true) :
    foldN (some (startA 10, wordsF ⟨10, ye, (n1 : Int), (n2 : Int), (n3 : Int), (n4 : Int), b⟩ (orderK 10))) (orderK 10) = some (⟨10, ye, (n1 : Int), (n2 : Int), (n3 : Int), (n4 : Int), b⟩, []) := by
  have hl : lackF 10 ⟨10, ye, (n1 : Int), (n2 : Int), (n3 : Int), (n4 : Int), b⟩ b.length = true := lack_of hm
  simp [lackF, hasK, fieldsK] at hl
  obtain ⟨rfl, rfl, rfl⟩ := hl
  show stepN (stepN (stepN (some (startA 10, [numD n1, numD n4, numD n3])) 119) 97) 110 = _
  rw [stepN_some, t119 _ n1 h1, Option.map_some]
  rw [stepN_some, t97 _ n4 h4, Option.map_some]
  rw [stepN_some, t110 _ n3 h3, Option.map_some]
  rfl
theorem back_11 (ye : Bool) (n1 n2 n3 n4 : Nat) (b : List Nat) (h1 : n1 ≤ 65535) (h2 : n2 ≤ 65535) (h3 : n3 ≤ 65535) (h4 : n4 ≤ 65535) (hb : ∀ x ∈ b, x < 256) (hm : mayL ⟨11, ye, (n1 : Int), (n2 : Int), (n3 : Int), (n4 : Int), b⟩ = true) :
    foldN (some (startA 11, wordsF ⟨11, ye, (n1 : Int), (n2 : Int), (n3 : Int), (n4 : Int), b⟩ (orderK 11))) (orderK 11) = some (⟨11, ye, (n1 : Int), (n2 : Int), (n3 : Int), (n4 : Int), b⟩, []) := by
  have hl : lackF 11 ⟨11, ye, (n1 : Int), (n2 : Int), (n3 : Int), (n4 : Int), b⟩ b.length = true := lack_of hm
  simp [lackF, hasK, fieldsK] at hl
  obtain ⟨rfl, rfl, rfl⟩ := hl
  cases ye with
  | true =>
    have hw : n1 = 0 := by
      unfold mayL at hm
      simp at hm
      exact hm.2
    subst hw
    show stepN (stepN (some (startA 11, [numD n2, [110, 111, 110, 101]])) 107) 115 = _
    rw [stepN_some, t107 _ n2 h2, Option.map_some, stepN_some, t115y, Option.map_some]
    rfl
  | false =>
    show stepN (stepN (some (startA 11, [numD n2, numD n1])) 107) 115 = _
    rw [stepN_some, t107 _ n2 h2, Option.map_some, stepN_some, t115n _ n1 h1, Option.map_some]
    rfl
theorem back_12 (ye : Bool) (n1 n2 n3 n4 : Nat) (b : List Nat) (h1 : n1 ≤ 65535) (h2 : n2 ≤ 65535) (h3 : n3 ≤ 65535) (h4 : n4 ≤ 65535) (hb : ∀ x ∈ b, x < 256) (hm : mayL ⟨12, ye, (n1 : Int), (n2 : Int), (n3 : Int), (n4 : Int), b⟩ = true) :
    foldN (some (startA 12, wordsF ⟨12, ye, (n1 : Int), (n2 : Int), (n3 : Int), (n4 : Int), b⟩ (orderK 12))) (orderK 12) = some (⟨12, ye, (n1 : Int), (n2 : Int), (n3 : Int), (n4 : Int), b⟩, []) := by
  have hl : lackF 12 ⟨12, ye, (n1 : Int), (n2 : Int), (n3 : Int), (n4 : Int), b⟩ b.length = true := lack_of hm
  simp [lackF, hasK, fieldsK] at hl
  obtain ⟨rfl, rfl, rfl, rfl, rfl⟩ := hl
  show stepN (some (startA 12, [numD n2])) 107 = _
  rw [stepN_some, t107 _ n2 h2, Option.map_some]
  rfl
theorem back_13 (ye : Bool) (n1 n2 n3 n4 : Nat) (b : List Nat) (h1 : n1 ≤ 65535) (h2 : n2 ≤ 65535) (h3 : n3 ≤ 65535) (h4 : n4 ≤ 65535) (hb : ∀ x ∈ b, x < 256) (hm : mayL ⟨13, ye, (n1 : Int), (n2 : Int), (n3 : Int), (n4 : Int), b⟩ = true) :
    foldN (some (startA 13, wordsF ⟨13, ye, (n1 : Int), (n2 : Int), (n3 : Int), (n4 : Int), b⟩ (orderK 13))) (orderK 13) = some (⟨13, ye, (n1 : Int), (n2 : Int), (n3 : Int), (n4 : Int), b⟩, []) := by
  have hl : lackF 13 ⟨13, ye, (n1 : Int), (n2 : Int), (n3 : Int), (n4 : Int), b⟩ b.length = true := lack_of hm
  simp [lackF, hasK, fieldsK] at hl
  obtain ⟨rfl, rfl, rfl, rfl, rfl⟩ := hl
  show stepN (some (startA 13, [numD n1])) 119 = _
  rw [stepN_some, t119 _ n1 h1, Option.map_some]
  rfl
theorem back_14 (ye : Bool) (n1 n2 n3 n4 : Nat) (b : List Nat) (h1 : n1 ≤ 65535) (h2 : n2 ≤ 65535) (h3 : n3 ≤ 65535) (h4 : n4 ≤ 65535) (hb : ∀ x ∈ b, x < 256) (hm : mayL ⟨14, ye, (n1 : Int), (n2 : Int), (n3 : Int), (n4 : Int), b⟩ = true) :
    foldN (some (startA 14, wordsF ⟨14, ye, (n1 : Int), (n2 : Int), (n3 : Int), (n4 : Int), b⟩ (orderK 14))) (orderK 14) = some (⟨14, ye, (n1 : Int), (n2 : Int), (n3 : Int), (n4 : Int), b⟩, []) := by
  have hl : lackF 14 ⟨14, ye, (n1 : Int), (n2 : Int), (n3 : Int), (n4 : Int), b⟩ b.length = true := lack_of hm
  simp [lackF, hasK, fieldsK] at hl
  obtain ⟨rfl, rfl, rfl, rfl, rfl, rfl⟩ := hl
  show some (startA 14, []) = _
  rfl
theorem back_15 (ye : Bool) (n1 n2 n3 n4 : Nat) (b : List Nat) (h1 : n1 ≤ 65535) (h2 : n2 ≤ 65535) (h3 : n3 ≤ 65535) (h4 : n4 ≤ 65535) (hb : ∀ x ∈ b, x < 256) (hm : mayL ⟨15, ye, (n1 : Int), (n2 : Int), (n3 : Int), (n4 : Int), b⟩ = true) :
    foldN (some (startA 15, wordsF ⟨15, ye, (n1 : Int), (n2 : Int), (n3 : Int), (n4 : Int), b⟩ (orderK 15))) (orderK 15) = some (⟨15, ye, (n1 : Int), (n2 : Int), (n3 : Int), (n4 : Int), b⟩, []) := by
  have hl : lackF 15 ⟨15, ye, (n1 : Int), (n2 : Int), (n3 : Int), (n4 : Int), b⟩ b.length = true := lack_of hm
  simp [lackF, hasK, fieldsK] at hl
  obtain ⟨rfl, rfl, rfl, rfl, rfl, rfl⟩ := hl
  show some (startA 15, []) = _
  rfl
theorem back_16 (ye : Bool) (n1 n2 n3 n4 : Nat) (b : List Nat) (h1 : n1 ≤ 65535) (h2 : n2 ≤ 65535) (h3 : n3 ≤ 65535) (h4 : n4 ≤ 65535) (hb : ∀ x ∈ b, x < 256) (hm : mayL ⟨16, ye, (n1 : Int), (n2 : Int), (n3 : Int), (n4 : Int), b⟩ = true) :
    foldN (some (startA 16, wordsF ⟨16, ye, (n1 : Int), (n2 : Int), (n3 : Int), (n4 : Int), b⟩ (orderK 16))) (orderK 16) = some (⟨16, ye, (n1 : Int), (n2 : Int), (n3 : Int), (n4 : Int), b⟩, []) := by
  have hl : lackF 16 ⟨16, ye, (n1 : Int), (n2 : Int), (n3 : Int), (n4 : Int), b⟩ b.length = true := lack_of hm
  simp [lackF, hasK, fieldsK] at hl
  obtain ⟨rfl, rfl, rfl, rfl, rfl⟩ := hl
  show stepN (some (startA 16, [hexS b])) 98 = _
  rw [stepN_some, t98 _ b hb, Option.map_some]
  rfl
theorem back_17 (ye : Bool) (n1 n2 n3 n4 : Nat) (b : List Nat) (h1 : n1 ≤ 65535) (h2 : n2 ≤ 65535) (h3 : n3 ≤ 65535) (h4 : n4 ≤ 65535) (hb : ∀ x ∈ b, x < 256) (hm : mayL ⟨17, ye, (n1 : Int), (n2 : Int), (n3 : Int), (n4 : Int), b⟩ = true) :
    foldN (some (startA 17, wordsF ⟨17, ye, (n1 : Int), (n2 : Int), (n3 : Int), (n4 : Int), b⟩ (orderK 17))) (orderK 17) = some (⟨17, ye, (n1 : Int), (n2 : Int), (n3 : Int), (n4 : Int), b⟩, []) := by
  have hl : lackF 17 ⟨17, ye, (n1 : Int), (n2 : Int), (n3 : Int), (n4 : Int), b⟩ b.length = true := lack_of hm
  simp [lackF, hasK, fieldsK] at hl
  obtain ⟨rfl, rfl, rfl, rfl⟩ := hl
  show stepN (stepN (some (startA 17, [numD n3, hexS b])) 110) 98 = _
  rw [stepN_some, t110 _ n3 h3, Option.map_some]
  rw [stepN_some, t98 _ b hb, Option.map_some]
  rfl
theorem back_18 (ye : Bool) (n1 n2 n3 n4 : Nat) (b : List Nat) (h1 : n1 ≤ 65535) (h2 : n2 ≤ 65535) (h3 : n3 ≤ 65535) (h4 : n4 ≤ 65535) (hb : ∀ x ∈ b, x < 256) (hm : mayL ⟨18, ye, (n1 : Int), (n2 : Int), (n3 : Int), (n4 : Int), b⟩ = true) :
    foldN (some (startA 18, wordsF ⟨18, ye, (n1 : Int), (n2 : Int), (n3 : Int), (n4 : Int), b⟩ (orderK 18))) (orderK 18) = some (⟨18, ye, (n1 : Int), (n2 : Int), (n3 : Int), (n4 : Int), b⟩, []) := by
  have hl : lackF 18 ⟨18, ye, (n1 : Int), (n2 : Int), (n3 : Int), (n4 : Int), b⟩ b.length = true := lack_of hm
  simp [lackF, hasK, fieldsK] at hl
  obtain ⟨rfl, rfl, rfl, rfl⟩ := hl
  show stepN (stepN (some (startA 18, [numD n4, hexS b])) 97) 98 = _
  rw [stepN_some, t97 _ n4 h4, Option.map_some]
  rw [stepN_some, t98 _ b hb, Option.map_some]
  rfl
theorem back_19 (ye : Bool) (n1 n2 n3 n4 : Nat) (b : List Nat) (h1 : n1 ≤ 65535) (h2 : n2 ≤ 65535) (h3 : n3 ≤ 65535) (h4 : n4 ≤ 65535) (hb : ∀ x ∈ b, x < 256) (hm : mayL ⟨19, ye, (n1 : Int), (n2 : Int), (n3 : Int), (n4 : Int), b⟩ = true) :
    foldN (some (startA 19, wordsF ⟨19, ye, (n1 : Int), (n2 : Int), (n3 : Int), (n4 : Int), b⟩ (orderK 19))) (orderK 19) = some (⟨19, ye, (n1 : Int), (n2 : Int), (n3 : Int), (n4 : Int), b⟩, []) := by
  have hl : lackF 19 ⟨19, ye, (n1 : Int), (n2 : Int), (n3 : Int), (n4 : Int), b⟩ b.length = true := lack_of hm
  simp [lackF, hasK, fieldsK] at hl
  obtain ⟨rfl, rfl, rfl, rfl, rfl, rfl⟩ := hl
  show some (startA 19, []) = _
  rfl
theorem back_fold (a : AN) (k : Nat) (hk : k < 20) (hak : a.kind = (k : Int)) (hm : mayL a = true) (hb : ∀ x ∈ a.b, x < 256) : foldN (some (startA k, wordsF a (orderK k))) (orderK k) = some (a, []) := by
  obtain ⟨_, ⟨w0, w1⟩, ⟨k0, k1⟩, ⟨n0, n1⟩, a0, a1⟩ := mayL_num hm
  obtain ⟨kd, ye, wh, kk, nn, aa, b⟩ := a
  obtain ⟨m1, rfl⟩ : ∃ x : Nat, wh = (x : Int) := ⟨wh.toNat, by simp at w0; omega⟩
  obtain ⟨m2, rfl⟩ : ∃ x : Nat, kk = (x : Int) := ⟨kk.toNat, by simp at k0; omega⟩
  obtain ⟨m3, rfl⟩ : ∃ x : Nat, nn = (x : Int) := ⟨nn.toNat, by simp at n0; omega⟩
  obtain ⟨m4, rfl⟩ : ∃ x : Nat, aa = (x : Int) := ⟨aa.toNat, by simp at a0; omega⟩
  have hak' : kd = (k : Int) := hak
  subst hak'
  simp only at w1 k1 n1 a1
  rcases (by omega : k = 0 ∨ k = 1 ∨ k = 2 ∨ k = 3 ∨ k = 4 ∨ k = 5 ∨ k = 6 ∨ k = 7 ∨ k = 8 ∨ k = 9 ∨ k = 10 ∨ k = 11 ∨ k = 12 ∨ k = 13 ∨ k = 14 ∨ k = 15 ∨ k = 16 ∨ k = 17 ∨ k = 18 ∨ k = 19) with rfl | rfl | rfl | rfl | rfl | rfl | rfl | rfl | rfl | rfl | rfl | rfl | rfl | rfl | rfl | rfl | rfl | rfl | rfl | rfl
  · exact back_0 ye m1 m2 m3 m4 b (by omega) (by omega) (by omega) (by omega) hb hm
  · exact back_1 ye m1 m2 m3 m4 b (by omega) (by omega) (by omega) (by omega) hb hm
  · exact back_2 ye m1 m2 m3 m4 b (by omega) (by omega) (by omega) (by omega) hb hm
  · exact back_3 ye m1 m2 m3 m4 b (by omega) (by omega) (by omega) (by omega) hb hm
  · exact back_4 ye m1 m2 m3 m4 b (by omega) (by omega) (by omega) (by omega) hb hm
  · exact back_5 ye m1 m2 m3 m4 b (by omega) (by omega) (by omega) (by omega) hb hm
  · exact back_6 ye m1 m2 m3 m4 b (by omega) (by omega) (by omega) (by omega) hb hm
  · exact back_7 ye m1 m2 m3 m4 b (by omega) (by omega) (by omega) (by omega) hb hm
  · exact back_8 ye m1 m2 m3 m4 b (by omega) (by omega) (by omega) (by omega) hb hm
  · exact back_9 ye m1 m2 m3 m4 b (by omega) (by omega) (by omega) (by omega) hb hm
  · exact back_10 ye m1 m2 m3 m4 b (by omega) (by omega) (by omega) (by omega) hb hm
  · exact back_11 ye m1 m2 m3 m4 b (by omega) (by omega) (by omega) (by omega) hb hm
  · exact back_12 ye m1 m2 m3 m4 b (by omega) (by omega) (by omega) (by omega) hb hm
  · exact back_13 ye m1 m2 m3 m4 b (by omega) (by omega) (by omega) (by omega) hb hm
  · exact back_14 ye m1 m2 m3 m4 b (by omega) (by omega) (by omega) (by omega) hb hm
  · exact back_15 ye m1 m2 m3 m4 b (by omega) (by omega) (by omega) (by omega) hb hm
  · exact back_16 ye m1 m2 m3 m4 b (by omega) (by omega) (by omega) (by omega) hb hm
  · exact back_17 ye m1 m2 m3 m4 b (by omega) (by omega) (by omega) (by omega) hb hm
  · exact back_18 ye m1 m2 m3 m4 b (by omega) (by omega) (by omega) (by omega) hb hm
  · exact back_19 ye m1 m2 m3 m4 b (by omega) (by omega) (by omega) (by omega) hb hm
theorem act_back (a : AN) (k : Nat) (hk : k < 20) (hak : a.kind = (k : Int)) (hm : mayL a = true) (hb : ∀ x ∈ a.b, x < 256) : actN (nameK k :: wordsF a (orderK k)) = some a := by
  rw [actN_cons, kindN_hit hk rfl (fun j hj e => by have := nameK_inj j (by omega) k hk e; omega)]
  show endN (foldN (some (startA k, wordsF a (orderK k))) (orderK k)) = _
  rw [back_fold a k hk hak hm hb]
  show (if ([] : List (List UInt8)) = [] ∧ mayA a = true then some a else none) = _
  rw [if_pos ⟨rfl, by unfold mayL at hm; simp only [Bool.and_eq_true] at hm; exact hm.1⟩]
theorem wordsB_word : ∀ (x s w : List UInt8), (∀ c ∈ x, c ≠ 32 ∧ c ≠ 9) → wordsB (x ++ s) w = wordsB s (w ++ x)
  | [], s, w, _ => by simp
  | c :: x, s, w, h => by
    have hc := h c (List.mem_cons_self ..)
    rw [List.cons_append, wordsB_cons, if_neg (fun e => by rcases e with e | e; exact hc.1 e; exact hc.2 e), wordsB_word x s _ (fun d hd => h d (List.mem_cons_of_mem _ hd))]
    simp
theorem wordsB_blank (s w : List UInt8) (hw : w ≠ []) : wordsB (32 :: s) w = w :: wordsB s [] := by
  rw [wordsB_cons, if_pos (Or.inl rfl), if_neg hw]
/-- what a line ends with that is no word -/
def Tl (t : List UInt8) : Prop := ∀ v : List UInt8, v ≠ [] → wordsB t v = [v]
theorem tl_nil : Tl [] := fun v hv => by rw [wordsB_nil, if_neg hv]
theorem tl_32 : Tl [32] := fun v hv => by rw [wordsB_blank _ _ hv, wordsB_nil, if_pos rfl]
theorem tl_9 : Tl [9, 32] := fun v hv => by rw [wordsB_cons, if_pos (Or.inr rfl), if_neg hv, wordsB_cons, if_pos (Or.inl rfl), if_pos rfl, wordsB_nil, if_pos rfl]
theorem line_words (a : AN) (hb : ∀ x ∈ a.b, x < 256) (t : List UInt8) (ht : Tl t) : ∀ (f : List UInt8) (w : List UInt8), w ≠ [] → (∀ c ∈ f, c.toNat = 119 ∨ c.toNat = 107 ∨ c.toNat = 110 ∨ c.toNat = 97 ∨ c.toNat = 98 ∨ c.toNat = 111 ∨ c.toNat = 115) → wordsB (lineF a f ++ t) w = w :: wordsF a f
  | [], w, hw, _ => ht w hw
  | c :: f, w, hw, hf => by
    have hc := wordA_cw a hb c.toNat (hf c (List.mem_cons_self ..))
    have e : lineF a (c :: f) = 32 :: (wordA a c.toNat ++ lineF a f) := by unfold lineF; rw [List.flatMap_cons]; rfl
    rw [e, List.cons_append, wordsB_blank _ _ hw, List.append_assoc, wordsB_word _ _ _ (fun d hd => ⟨(hc.2 d hd).1, (hc.2 d hd).2.1⟩), List.nil_append, line_words a hb t ht f _ hc.1 (fun d hd => hf d (List.mem_cons_of_mem _ hd))]
    rfl
theorem lineA_words (a : AN) (k : Nat) (hk : k < 20) (hb : ∀ x ∈ a.b, x < 256) (t : List UInt8) (ht : Tl t) : wordsB (lineA k a ++ t) [] = nameK k :: wordsF a (orderK k) := by
  have hn := name_cw k hk
  unfold lineA
  rw [List.append_assoc, wordsB_word _ _ _ (fun d hd => ⟨(hn.2 d hd).1, (hn.2 d hd).2.1⟩), List.nil_append]
  exact line_words a hb t ht (orderK k) _ hn.1 (order_signs k)
theorem lineA_plain (a : AN) (k : Nat) (hk : k < 20) (hb : ∀ x ∈ a.b, x < 256) : ∀ c ∈ lineA k a, c ≠ 10 ∧ c ≠ 35 := by
  have hn := name_cw k hk
  intro c hc
  unfold lineA lineF at hc
  rcases List.mem_append.1 hc with hc | hc
  · exact ⟨(hn.2 c hc).2.2.1, (hn.2 c hc).2.2.2⟩
  · rw [List.mem_flatMap] at hc
    obtain ⟨d, hd, hc⟩ := hc
    rcases List.mem_cons.1 hc with rfl | hc
    · exact ⟨by decide, by decide⟩
    · have := (wordA_cw a hb d.toNat (order_signs k d hd)).2 c hc
      exact ⟨this.2.2.1, this.2.2.2⟩
theorem strip_app : ∀ (x t : List UInt8), (∀ c ∈ x, c ≠ 35) → stripH (x ++ t) = x ++ stripH t
  | [], t, _ => rfl
  | c :: x, t, h => by
    rw [List.cons_append, stripH_cons, if_neg (h c (List.mem_cons_self ..)), strip_app x t (fun d hd => h d (List.mem_cons_of_mem _ hd))]; rfl
/-- a text whose lines are these acts -/
def Txt (S : List UInt8) (L : List AN) : Prop := ∃ c, ∀ rest j acc, parsK (linesL (S ++ rest)) j acc = parsK (linesL rest) (j + c) (acc ++ L)
theorem txt_nil : Txt [] [] := ⟨0, fun rest j acc => by simp⟩
theorem Txt.app {S S' : List UInt8} {L L' : List AN} (h : Txt S L) (h' : Txt S' L') : Txt (S ++ S') (L ++ L') := by
  obtain ⟨c, h⟩ := h
  obtain ⟨c', h'⟩ := h'
  exact ⟨c + c', fun rest j acc => by rw [List.append_assoc, h, h', List.append_assoc, Nat.add_assoc]⟩
theorem Txt.parse {S : List UInt8} {L : List AN} (h : Txt S L) : parsN S = (L, 0) := by
  obtain ⟨c, h⟩ := h
  have := h [] 1 []
  rw [List.append_nil, List.nil_append] at this
  unfold parsN
  rw [this]
  rfl
theorem txt_line {S : List UInt8} {L : List AN} (h10 : (10 : UInt8) ∉ S) (h : ∀ ls j acc, parsK (S :: ls) j acc = parsK ls (j + 1) (acc ++ L)) : Txt (S ++ [10]) L :=
  ⟨1, fun rest j acc => by rw [List.append_assoc]; show parsK (linesL (S ++ 10 :: rest)) j acc = _; rw [linesL_hit _ _ h10, h]⟩
theorem txt_skip {S : List UInt8} (h10 : (10 : UInt8) ∉ S) (h : wordsL S = []) : Txt (S ++ [10]) [] := txt_line h10 fun ls j acc => by rw [parsK_skip h, List.append_nil]
theorem txt_act {S : List UInt8} {a : AN} (h10 : (10 : UInt8) ∉ S) (h : actN (wordsL S) = some a) : Txt (S ++ [10]) [a] := txt_line h10 fun ls j acc => by
  rw [parsK_some _ h]
  intro e; rw [e] at h; cases h
/-- an act's line among blanks and a remark -/
theorem txt_of (a : AN) (k : Nat) (hk : k < 20) (hak : a.kind = (k : Int)) (hm : mayL a = true) (hb : ∀ x ∈ a.b, x < 256) (p q : List UInt8) (hp : p = [] ∨ p = [32] ∨ p = [9]) (hq : (10 : UInt8) ∉ q) (ht : Tl (stripH q)) : Txt (p ++ lineA k a ++ q ++ [10]) [a] := by
  have hl := lineA_plain a k hk hb
  refine txt_act (fun h => ?_) ?_
  · rcases List.mem_append.1 h with h | h
    · rcases List.mem_append.1 h with h | h
      · rcases hp with rfl | rfl | rfl
        · cases h
        · revert h; decide
        · revert h; decide
      · exact (hl _ h).1 rfl
    · exact hq h
  · have hw : wordsL (p ++ lineA k a ++ q) = nameK k :: wordsF a (orderK k) := by
      unfold wordsL
      rcases hp with rfl | rfl | rfl
      · rw [List.nil_append, strip_app _ _ (fun c hc => (hl c hc).2)]
        exact lineA_words a k hk hb _ ht
      · rw [List.append_assoc, List.cons_append, List.nil_append, stripH_cons, if_neg (by decide), strip_app _ _ (fun c hc => (hl c hc).2), wordsB_cons, if_pos (Or.inl rfl), if_pos rfl]
        exact lineA_words a k hk hb _ ht
      · rw [List.append_assoc, List.cons_append, List.nil_append, stripH_cons, if_neg (by decide), strip_app _ _ (fun c hc => (hl c hc).2), wordsB_cons, if_pos (Or.inr rfl), if_pos rfl]
        exact lineA_words a k hk hb _ ht
    rw [hw]
    exact act_back a k hk hak hm hb
end Go.Proofs.YteennbdakjjcfaaDoor
