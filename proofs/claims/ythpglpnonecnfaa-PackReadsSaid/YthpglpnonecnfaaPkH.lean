/- pack.Parse. -/
import Derived.Test.YthpglpnonecnfaaPkG
import Derived.Test.YthpglpnonecnfaaResRow
set_option linter.unusedVariables false
set_option linter.unusedSimpArgs false
namespace Go.Proofs.Ythpglpnonecnfaa
open Go Go.RowKit Sha
abbrev RSt := List Nat × Int
def advS (n : Nat) (s : RSt) : RSt := (restN n s.1 s.2, errN n s.1 s.2)
def numS (s : RSt) : Nat := leN (nextN 2 s.1 s.2)
def stK (s : RSt) : Nat → RSt
  | 0 => s
  | k + 1 => advS 2 (stK s k)
def rootsS (s : RSt) : List Int := (List.range 16).map fun k => (numS (stK s k) : Int)
def loopN : Nat → List (List Nat) → RSt → List (List Nat) × RSt
  | 0, L, s => (L, s)
  | n + 1, L, s => if s.2 = 0 then loopN n (L ++ [nextN (numS s) (advS 2 s).1 (advS 2 s).2]) (advS (numS s) (advS 2 s)) else (L, s)
def s0N (b : List Nat) : RSt := advS 4 (b, 0)
def s1N (b : List Nat) : RSt := advS 2 (s0N b)
def finN (b : List Nat) : List (List Nat) × RSt := loopN (numS (s0N b)) [] (stK (s1N b) 16)
/-- what the program's Parse answers -/
def parseN (b : List Nat) : Option (List (List Nat) × List Int) :=
  if (finN b).2.2 = 0 ∧ mayP (finN b).1 (rootsS (s1N b)) = true ∧ b = packBytes (finN b).1 (rootsS (s1N b)) then some ((finN b).1, rootsS (s1N b)) else none
theorem parse_bytes {b : List Nat} {L : List (List Nat)} {R : List Int} (h : parseN b = some (L, R)) : b = packBytes L R ∧ mayP L R = true := by
  unfold parseN at h
  split at h
  · rename_i hc
    cases h
    exact ⟨hc.2.2, hc.2.1⟩
  · cases h
theorem rest_len (n : Nat) (l : List Nat) (e : Int) : (restN n l e).length ≤ l.length := by
  unfold restN; split <;> (try split) <;> simp
theorem adv_len (n : Nat) (s : RSt) : (advS n s).1.length ≤ s.1.length := rest_len _ _ _
theorem stK_len (s : RSt) : ∀ k, (stK s k).1.length ≤ s.1.length
  | 0 => Nat.le_refl _
  | k + 1 => Nat.le_trans (adv_len _ _) (stK_len s k)
theorem rootsS_len (s : RSt) : (rootsS s).length = 16 := by simp [rootsS]
theorem rootsS_get (s : RSt) (k : Nat) (h : k < 16) : (rootsS s).getD k 0 = (numS (stK s k) : Int) := by simp [rootsS, h]
theorem num_lt (s : RSt) (h : ∀ x ∈ s.1, x < 256) : numS s ≤ 65535 := by
  unfold numS nextN
  split
  · split
    · simp [leN]
    · rename_i h2
      match hs : s.1, h2 with
      | x :: y :: r, _ =>
        have hx := h x (by rw [hs]; simp)
        have hy := h y (by rw [hs]; simp)
        simp [leN]; omega
      | [x], h2 => simp at h2
      | [], h2 => simp at h2
  · simp [leN]
theorem rest_mem (n : Nat) (l : List Nat) (e : Int) (h : ∀ x ∈ l, x < 256) : ∀ x ∈ restN n l e, x < 256 := by
  unfold restN
  split
  · split
    · exact h
    · exact fun x hx => h x (List.mem_of_mem_drop hx)
  · exact h
theorem stK_mem (s : RSt) (h : ∀ x ∈ s.1, x < 256) : ∀ k, ∀ x ∈ (stK s k).1, x < 256
  | 0 => h
  | k + 1 => rest_mem _ _ _ (stK_mem s h k)
theorem next_mem (n : Nat) (l : List Nat) (e : Int) (h : ∀ x ∈ l, x < 256) : ∀ x ∈ nextN n l e, x < 256 := by
  unfold nextN
  split
  · split
    · intro x hx; cases hx
    · exact fun x hx => h x (List.mem_of_mem_take hx)
  · intro x hx; cases hx
theorem nums_len (R : List Int) : (numsB R).length = 2 * R.length := by
  unfold numsB
  induction R with
  | nil => rfl
  | cons r R ih => rw [List.flatMap_cons, List.length_append, ih, lowB_len, List.length_cons]; omega
/-- what is read stays within what was there -/
theorem step_len (L : List (List Nat)) (s : RSt) (m : Nat) (hs : s.2 = 0) (h : (rowsB L).length + s.1.length ≤ m) :
    (rowsB (L ++ [nextN (numS s) (advS 2 s).1 (advS 2 s).2])).length + (advS (numS s) (advS 2 s)).1.length ≤ m + 2 ∧ ((advS (numS s) (advS 2 s)).2 = 0 → (rowsB (L ++ [nextN (numS s) (advS 2 s).1 (advS 2 s).2])).length + (advS (numS s) (advS 2 s)).1.length ≤ m) := by
  have e : (rowsB (L ++ [nextN (numS s) (advS 2 s).1 (advS 2 s).2])).length = (rowsB L).length + (2 + (nextN (numS s) (advS 2 s).1 (advS 2 s).2).length) := by
    unfold rowsB; rw [List.flatMap_append, List.length_append]; simp [lowB_len]
  rw [e]
  obtain ⟨l, er⟩ := s
  simp only at hs h
  subst hs
  generalize numS (l, 0) = q
  by_cases h2 : l.length < 2
  · have h3 : advS 2 (l, 0) = (l, 3) := by simp [advS, restN, errN, h2]
    rw [h3]
    have h4 : nextN q l 3 = [] := by simp [nextN]
    have h5 : advS q (l, (3 : Int)) = (l, 3) := by simp [advS, restN, errN]
    rw [h4, h5]
    simp; omega
  · have h3 : advS 2 (l, 0) = (l.drop 2, 0) := by simp [advS, restN, errN, h2]
    rw [h3]
    by_cases h6 : (l.drop 2).length < q
    · have h4 : nextN q (l.drop 2) 0 = [] := by unfold nextN; rw [if_pos rfl, if_pos h6]
      have h5 : advS q (l.drop 2, (0 : Int)) = (l.drop 2, 3) := by unfold advS restN errN; simp only [if_true, if_pos h6]
      rw [h4, h5]
      simp only [List.length_drop, List.length_nil] at *
      refine ⟨by omega, fun h => by simp at h⟩
    · have h4 : nextN q (l.drop 2) 0 = (l.drop 2).take q := by unfold nextN; rw [if_pos rfl, if_neg h6]
      have h5 : advS q (l.drop 2, (0 : Int)) = ((l.drop 2).drop q, 0) := by unfold advS restN errN; simp only [if_true, if_neg h6]
      rw [h4, h5]
      simp only [List.length_drop, List.length_take] at *
      refine ⟨by omega, fun _ => by omega⟩
set_option maxRecDepth 100000 in
theorem equal2_c (a1 a2 : Option Addr) (c1 c2 n1 n2 : Nat) (l1 l2 : List Nat) (e1 : l1.length = n1) (e2 : l2.length = n2) (w : World) (h1 : BytesAt w a1 c1 l1) (h2 : BytesAt w a2 c2 l2) :
    Calls Try.prog 28 #[.slice a1 n1 c1, .slice a2 n2 c2] w fun e w' => e = .returned (.bool (decide (l1 = l2))) ∧ w = w' := by
  have H1 := Lib.hid h1
  have H2 := Lib.hid h2
  have HE := Lib.hid e1
  have HE2 := Lib.hid e2
  have HLT := Lib.hid (And.intro h1.1 h2.1)
  clear h1 h2 e1 e2
  go_enter Try.func28, Try.ntmps28
  go_wp2_with (first
    | (refine wpList_conv rfl (.tmp 5) HE.out H1.out rfl rfl ?_)
    | (refine wpList_conv rfl (.tmp 7) HE2.out H2.out rfl rfl ?_)
    | (refine wpList_eqs rfl (.tmp 6) (.tmp 8) 9 l1 l2 HLT.out.1 HLT.out.2 rfl rfl rfl ?_)
    | fail)
  go_ret
  exact ⟨rfl, rfl⟩
theorem RowIs.far {w w' : World} {rb : Nat} {l : List Nat} {err : Int} (h : RowIs w rb l err) (hb : Below (rb + 1) w w') : RowIs w' rb l err := by
  obtain ⟨v, h1, h2⟩ := h
  exact ⟨v, (hb.block _ (Nat.lt_succ_self _)).trans h1, h2.up (hb.mono (Nat.le_succ _))⟩
theorem parse_none {b : List Nat} {L : List (List Nat)} {t : RSt} {R : List Int} (hf : finN b = (L, t)) (hR : R = rootsS (s1N b)) (h : ¬ (t.2 = 0 ∧ mayP L R = true ∧ b = packBytes L R)) : parseN b = none := by
  unfold parseN
  rw [hf, ← hR, if_neg h]
theorem parse_some {b : List Nat} {L : List (List Nat)} {t : RSt} {R : List Int} (hf : finN b = (L, t)) (hR : R = rootsS (s1N b)) (h : t.2 = 0 ∧ mayP L R = true ∧ b = packBytes L R) : parseN b = some (L, R) := by
  unfold parseN
  rw [hf, ← hR, if_pos h]
theorem loop_next (m : Nat) (L : List (List Nat)) (s : RSt) (h : s.2 = 0) : loopN (m + 1) L s = loopN m (L ++ [nextN (numS s) (advS 2 s).1 (advS 2 s).2]) (advS (numS s) (advS 2 s)) := by
  show (if s.2 = 0 then _ else _) = _
  rw [if_pos h]
theorem loop_stop (m : Nat) (L : List (List Nat)) (s : RSt) (h : s.2 ≠ 0) : loopN (m + 1) L s = (L, s) := by
  show (if s.2 = 0 then _ else _) = _
  rw [if_neg h]
theorem zp_one : ((#[.slice none 0 0, .int .i64 0, .int .i64 0, .int .i64 0, .int .i64 0, .int .i64 0, .int .i64 0, .int .i64 0, .int .i64 0, .int .i64 0, .int .i64 0, .int .i64 0, .int .i64 0, .int .i64 0, .int .i64 0, .int .i64 0, .int .i64 0] : Array Value)).all (·.oneCell') = true := by simp [Value.oneCell']
/-- the answer -/
def ParseRes (w' : World) (e : Ending) (b : List Nat) : Prop := match parseN b with
  | none => e = .returned (.tuple #[.agg #[.slice none 0 0, .int .i64 0, .int .i64 0, .int .i64 0, .int .i64 0, .int .i64 0, .int .i64 0, .int .i64 0, .int .i64 0, .int .i64 0, .int .i64 0, .int .i64 0, .int .i64 0, .int .i64 0, .int .i64 0, .int .i64 0, .int .i64 0], .int .i64 4])
  | some (L, R) => ∃ a c, e = .returned (.tuple #[.agg (packA (.slice a L.length c) R), .int .i64 0]) ∧ RowsAt w' a L
set_option maxRecDepth 100000 in
set_option maxHeartbeats 8000000 in
theorem parse_c (v : Value) (b : List Nat) (hlen : b.length ≤ 800000) (w : World) (hv : SlAt w v b) :
    Calls Try.prog 10 #[v] w fun e w' => ParseRes w' e b ∧ Below w.heap.size w w' := by
  have HZ0 : Hid ((w.alloc (.cells #[.slice none 0 0, .int .i64 0, .int .i64 0, .int .i64 0, .int .i64 0, .int .i64 0, .int .i64 0, .int .i64 0, .int .i64 0, .int .i64 0, .int .i64 0, .int .i64 0, .int .i64 0, .int .i64 0, .int .i64 0, .int .i64 0, .int .i64 0] 33)).heap[w.heap.size]? = some (.cells #[.slice none 0 0, .int .i64 0, .int .i64 0, .int .i64 0, .int .i64 0, .int .i64 0, .int .i64 0, .int .i64 0, .int .i64 0, .int .i64 0, .int .i64 0, .int .i64 0, .int .i64 0, .int .i64 0, .int .i64 0, .int .i64 0, .int .i64 0] 33 (0, 0))) := heap_new' _ _
  have HE0 : Hid (Below w.heap.size w (w.alloc (.cells #[.slice none 0 0, .int .i64 0, .int .i64 0, .int .i64 0, .int .i64 0, .int .i64 0, .int .i64 0, .int .i64 0, .int .i64 0, .int .i64 0, .int .i64 0, .int .i64 0, .int .i64 0, .int .i64 0, .int .i64 0, .int .i64 0, .int .i64 0] 33))) := (Below.refl _ _).alloc (Nat.le_refl _) _
  have HV := Lib.hid hv
  have HL := Lib.hid hlen
  have HBB : Hid (∀ x ∈ b, x < 256) := by obtain ⟨a, cap, _, hb, _⟩ := hv; exact hb.1
  have HV0 := Lib.hid (hv.up HE0.out (Nat.le_refl _))
  obtain ⟨va, vc, hve, _⟩ := id hv
  obtain ⟨bl, hbl⟩ : ∃ bl, bl = b.length := ⟨_, rfl⟩
  have HBL := Lib.hid hbl
  rw [← hbl] at hve
  clear hv hlen hbl
  subst hve
  go_enter Try.func10, Try.ntmps10
  go_wp2_with fail
  refine (rowof_c _ b (by have := HL.out; omega) _ HV0.out).mono ?_
  rintro e w1 ⟨rb, rfl, hrb, hr1, hb1⟩
  have HRB : Hid (w.heap.size < rb) := by have := hrb; simp at this; exact this
  have HZ1 := Lib.hid ((hb1.block _ (lt_of_block HZ0.out)).trans HZ0.out)
  have HE1 : Hid (Below w.heap.size w w1) := HE0.out.trans (hb1.mono HE0.out.size)
  have HR1 := Lib.hid hr1
  clear hrb hr1 hb1 HZ0 HE0 HV0
  go_wp2_with fail
  refine (rbytes_c rb 4 (by omega) 4 rfl b (by have := HL.out; omega) 0 w1 HR1.out).mono ?_
  rintro e w2 ⟨⟨v2, rfl, _⟩, hr2, hs2⟩
  have HZ2 := Lib.hid ((hs2.2 _ (lt_of_block HZ1.out) (by have := HRB.out; omega)).trans HZ1.out)
  have HE2 : Hid (Below w.heap.size w w2) := HE1.out.trans (hs2.1.mono (Nat.le_of_lt HRB.out))
  have HR2 : Hid (RowIs w2 rb (s0N b).1 (s0N b).2) := hr2
  clear hr2 hs2 HR1 HZ1 HE1
  have HP3 : Hid ((w2.alloc (.cells #[.slice none 0 0, .int .i64 0, .int .i64 0, .int .i64 0, .int .i64 0, .int .i64 0, .int .i64 0, .int .i64 0, .int .i64 0, .int .i64 0, .int .i64 0, .int .i64 0, .int .i64 0, .int .i64 0, .int .i64 0, .int .i64 0, .int .i64 0] 33)).heap[w2.heap.size]? = some (.cells (packA (.slice none 0 0) (partR (rootsS (s1N b)) 0)) 33 (0, 0))) := heap_new' _ _
  have hb3 : Below w2.heap.size w2 (w2.alloc (.cells #[.slice none 0 0, .int .i64 0, .int .i64 0, .int .i64 0, .int .i64 0, .int .i64 0, .int .i64 0, .int .i64 0, .int .i64 0, .int .i64 0, .int .i64 0, .int .i64 0, .int .i64 0, .int .i64 0, .int .i64 0, .int .i64 0, .int .i64 0] 33)) := (Below.refl _ _).alloc (Nat.le_refl _) _
  have hrl : rb < w2.heap.size := by obtain ⟨_, h, _⟩ := HR2.out; exact lt_of_block h
  have HR3 : Hid (RowIs (w2.alloc (.cells #[.slice none 0 0, .int .i64 0, .int .i64 0, .int .i64 0, .int .i64 0, .int .i64 0, .int .i64 0, .int .i64 0, .int .i64 0, .int .i64 0, .int .i64 0, .int .i64 0, .int .i64 0, .int .i64 0, .int .i64 0, .int .i64 0, .int .i64 0] 33)) rb (s0N b).1 (s0N b).2) := HR2.out.far (hb3.mono hrl)
  have HZ3 := Lib.hid ((hb3.block _ (lt_of_block HZ2.out)).trans HZ2.out)
  have HE3 : Hid (Below w.heap.size w (w2.alloc (.cells #[.slice none 0 0, .int .i64 0, .int .i64 0, .int .i64 0, .int .i64 0, .int .i64 0, .int .i64 0, .int .i64 0, .int .i64 0, .int .i64 0, .int .i64 0, .int .i64 0, .int .i64 0, .int .i64 0, .int .i64 0, .int .i64 0, .int .i64 0] 33))) := HE2.out.trans (hb3.mono HE2.out.size)
  have HPB : Hid (rb < w2.heap.size) := hrl
  have hs0l : (s0N b).1.length ≤ 800000 := Nat.le_trans (adv_len 4 (b, 0)) HL.out
  have HS0L := Lib.hid hs0l
  have HS0M : Hid (∀ x ∈ (s0N b).1, x < 256) := rest_mem 4 b 0 HBB.out
  clear hb3 hrl HR2 HZ2 HE2 hs0l
  go_wp2_with fail
  generalize w2.alloc (.cells #[.slice none 0 0, .int .i64 0, .int .i64 0, .int .i64 0, .int .i64 0, .int .i64 0, .int .i64 0, .int .i64 0, .int .i64 0, .int .i64 0, .int .i64 0, .int .i64 0, .int .i64 0, .int .i64 0, .int .i64 0, .int .i64 0, .int .i64 0] 33) = w3 at *
  generalize w2.heap.size = pb at *
  refine (rnum_c rb (s0N b).1 (by have := HS0L.out; omega) (s0N b).2 w3 HR3.out).mono ?_
  rintro e w4 ⟨rfl, hr4, hs4⟩
  have HR4 : Hid (RowIs w4 rb (stK (s1N b) 0).1 (stK (s1N b) 0).2) := hr4
  have HP4 := Lib.hid ((hs4.2 _ (lt_of_block HP3.out) (by have := HPB.out; omega)).trans HP3.out)
  have HZ4 := Lib.hid ((hs4.2 _ (lt_of_block HZ3.out) (by have := HRB.out; omega)).trans HZ3.out)
  have HE4 : Hid (Below w.heap.size w w4) := HE3.out.trans (hs4.1.mono (Nat.le_of_lt HRB.out))
  obtain ⟨n, hn⟩ : ∃ n, n = numS (s0N b) := ⟨_, rfl⟩
  have HN : Hid (n = numS (s0N b) ∧ n ≤ 65535) := ⟨hn, by rw [hn]; exact num_lt _ HS0M.out⟩
  have hnn : leN (nextN 2 (s0N b).1 (s0N b).2) = n := hn.symm
  rw [hnn]
  have ei : IntKind.i64.wrap (n : Int) = (n : Int) := by have := HN.out.2; exact IntWalk.i64_in _ (by omega)
  clear hr4 hs4 hn hnn HR3 HP3 HZ3 HE3
  have HS1L : Hid ((s1N b).1.length ≤ 800000) := Nat.le_trans (adv_len 2 _) HS0L.out
  have HS1M : Hid (∀ x ∈ (s1N b).1, x < 256) := rest_mem 2 (s0N b).1 (s0N b).2 HS0M.out
  obtain ⟨R, hR⟩ : ∃ R, R = rootsS (s1N b) := ⟨_, rfl⟩
  have HRR := Lib.hid hR
  have H16 : Hid (R.length = 16) := by show _ = _; rw [hR]; exact rootsS_len _
  rw [← hR] at HP4
  clear hR
  go_wp2
  go_loopw [18] (fun vi wr => ∃ k : Nat, k ≤ 16 ∧ vi = .int .i64 (k : Int) ∧ Hid (wr.heap[pb]? = some (.cells (packA (.slice none 0 0) (partR R k)) 33 (0, 0))) ∧ Hid (RowIs wr rb (stK (s1N b) k).1 (stK (s1N b) k).2) ∧ Hid (wr.heap[w.heap.size]? = some (.cells #[.slice none 0 0, .int .i64 0, .int .i64 0, .int .i64 0, .int .i64 0, .int .i64 0, .int .i64 0, .int .i64 0, .int .i64 0, .int .i64 0, .int .i64 0, .int .i64 0, .int .i64 0, .int .i64 0, .int .i64 0, .int .i64 0, .int .i64 0] 33 (0, 0))) ∧ Hid (Below w.heap.size w wr)) (fun vi _ => 16 - (intOf vi).toNat)
  case atStart => exact ⟨0, by omega, rfl, HP4.out, HR4.out, HZ4.out, HE4.out⟩
  case round =>
    clear HP4 HR4 HZ4 HE4
    obtain ⟨k, hk, rfl, hp, hr, hz, hbel⟩ := hrel
    by_cases hlt : k < 16
    · have hd : decide ((k : Int) < 16) = true := by simp; omega
      have dl : (k : Int) < 16 := by omega
      have dk0 : ¬ (k : Int) < 0 := by omega
      have HK := Lib.hid hlt
      have HSL : Hid ((stK (s1N b) k).1.length ≤ 1000000) := by have h1 := stK_len (s1N b) k; have h2 := HS1L.out; show _ ≤ _; omega
      obtain ⟨q, hq⟩ : ∃ q, q = numS (stK (s1N b) k) := ⟨_, rfl⟩
      have HQ : Hid (q ≤ 65535 ∧ R.getD k 0 = (q : Int)) := ⟨by rw [hq]; exact num_lt _ (stK_mem _ HS1M.out k), by rw [HRR.out, rootsS_get _ k hlt, hq]⟩
      have hqq : leN (nextN 2 (stK (s1N b) k).1 (stK (s1N b) k).2) = q := hq.symm
      have eq1 : IntKind.i64.wrap (q : Int) = (q : Int) := by have := HQ.out.1; exact IntWalk.i64_in _ (by omega)
      have HQQ := Lib.hid hqq
      clear hq hqq hlt
      go_wp2_with fail
      refine (rnum_c rb (stK (s1N b) k).1 HSL.out (stK (s1N b) k).2 wr hr.out).mono ?_
      rintro e w5 ⟨rfl, hr5, hs5⟩
      rw [HQQ.out]
      have hp5 := (hs5.2 _ (lt_of_block hp.out) (by have := HPB.out; omega)).trans hp.out
      have hz5 := (hs5.2 _ (lt_of_block hz.out) (by have := HRB.out; omega)).trans hz.out
      have f5 := free_at hp5 (1 + k)
      have c5 := (cells_at hp5 (1 + k)).trans (packA_get _ _ k (by rw [partR_len R H16.out k hk]; have := HK.out; omega))
      have nb := block_at hp5 (1 + k) (.int .i64 (R.getD k 0))
      rw [partR_set _ R H16.out k HK.out, HQ.out.2] at nb
      have HN1 := Lib.hid nb
      have hbs : Below (rb + 1) w5 (w5.setCell ⟨pb, 1 + k, none⟩ (.int .i64 (q : Int))) := (Below.refl _ _).setCell (by have := HPB.out; show rb + 1 ≤ pb; omega) _
      have HN2 : Hid (RowIs (w5.setCell ⟨pb, 1 + k, none⟩ (.int .i64 (q : Int))) rb (stK (s1N b) (k + 1)).1 (stK (s1N b) (k + 1)).2) := RowIs.far hr5 hbs
      have HN3 := Lib.hid ((hbs.block _ (by have := HRB.out; omega)).trans hz5)
      have HN4 : Hid (Below w.heap.size w (w5.setCell ⟨pb, 1 + k, none⟩ (.int .i64 (q : Int)))) := (hbel.out.trans (hs5.1.mono (Nat.le_of_lt HRB.out))).trans (hbs.mono (by have := HRB.out; omega))
      clear nb hbs hp5 hz5 hr5 hs5 hp hr hz hbel hk
      go_wp2
      go_roundw
      case rel => exact ⟨k + 1, by have := HK.out; omega, by go_num, HN1.out, HN2.out, HN3.out, HN4.out⟩
      case measure => simp [intOf]; have := HK.out; omega
    · have hk16 : k = 16 := by omega
      have hd : decide ((k : Int) < 16) = false := by simp; omega
      have HP6 : Hid (wr.heap[pb]? = some (.cells (packA (.slice none 0 0) R) 33 (0, 0))) := by
        have h := hp.out; rw [hk16, partR_full R H16.out] at h; exact h
      have HR6 : Hid (RowIs wr rb (stK (s1N b) 16).1 (stK (s1N b) 16).2) := by have h := hr.out; rw [hk16] at h; exact h
      have HF6 : Hid (loopN (n - 0) [] (stK (s1N b) 16) = finN b) := by show _ = _; rw [Nat.sub_zero, HN.out.1]; rfl
      have HB6 : Hid ((stK (s1N b) 16).1.length ≤ 800000 ∧ (rowsB []).length + (stK (s1N b) 16).1.length ≤ b.length + 2 ∧ ((stK (s1N b) 16).2 = 0 → (rowsB []).length + (stK (s1N b) 16).1.length ≤ b.length)) := by
        have h1 := stK_len (s1N b) 16
        have h2 : (s1N b).1.length ≤ b.length := Nat.le_trans (adv_len 2 _) (adv_len 4 (b, 0))
        have h3 := HL.out
        have h4 : (rowsB []).length = 0 := rfl
        exact ⟨by omega, by omega, fun _ => by omega⟩
      have HM6 : Hid (∀ x ∈ (stK (s1N b) 16).1, x < 256) := stK_mem _ HS1M.out 16
      have HZ6 := Lib.hid hz.out
      have HE6 := Lib.hid hbel.out
      clear hp hr hz hbel hk16 hlt hk
      go_wp2
      go_loopw [8] (fun vi wr => ∃ k : Nat, k ≤ n ∧ vi = .int .i64 (k : Int) ∧ ∃ a5 c5 xs L t, Hid (wr.heap[pb]? = some (.cells (packA (.slice a5 k c5) R) 33 (0, 0))) ∧ Hid (wr.ownsRow (pb + 1) 27 1 (.slice a5 k c5) k xs) ∧ Hid (RowsO wr xs L) ∧ Hid (L.length = k) ∧ Hid (RowIs wr rb t.1 t.2) ∧ Hid (loopN (n - k) L t = finN b) ∧ Hid (t.1.length ≤ 800000 ∧ (rowsB L).length + t.1.length ≤ b.length + 2 ∧ (t.2 = 0 → (rowsB L).length + t.1.length ≤ b.length)) ∧ Hid (∀ x ∈ t.1, x < 256) ∧ Hid (wr.heap[w.heap.size]? = some (.cells #[.slice none 0 0, .int .i64 0, .int .i64 0, .int .i64 0, .int .i64 0, .int .i64 0, .int .i64 0, .int .i64 0, .int .i64 0, .int .i64 0, .int .i64 0, .int .i64 0, .int .i64 0, .int .i64 0, .int .i64 0, .int .i64 0, .int .i64 0] 33 (0, 0))) ∧ Hid (Below w.heap.size w wr)) (fun vi _ => n - (intOf vi).toNat)
      case atStart => exact ⟨0, by omega, rfl, none, 0, [], [], stK (s1N b) 16, HP6.out, World.ownsRow_nil _ _ _ _, rowsO_nil _, rfl, HR6.out, HF6.out, HB6.out, HM6.out, HZ6.out, HE6.out⟩
      case round =>
        clear HP6 HR6 HF6 HB6 HM6 HZ6 HE6
        obtain ⟨k, hk, rfl, a5, c5, xs, L, t, hp, hown, hro, hLk, hr, hf, htb, htm, hz, hbel⟩ := hrel
        have HKN := Lib.hid hk
        by_cases hlt : k < n
        · have hd2 : decide ((k : Int) < (n : Int)) = true := by simp; omega
          have dl2 : (k : Int) < (n : Int) := by omega
          have HK := Lib.hid hlt
          go_wp2_with fail
          refine (rowerr_c rb t.1 t.2 wr hr.out).mono ?_
          rintro e w4 ⟨rfl, rfl⟩
          by_cases ht0 : t.2 = 0
          · have HT0 := Lib.hid ht0
            rw [ht0]
            have HFN : Hid (loopN (n - (k + 1)) (L ++ [nextN (numS t) (advS 2 t).1 (advS 2 t).2]) (advS (numS t) (advS 2 t)) = finN b) := by
              have h := hf.out
              rw [show n - k = (n - (k + 1)) + 1 by omega, loop_next _ _ _ ht0] at h; exact h
            have HTS := Lib.hid (step_len L t b.length ht0 (htb.out.2.2 ht0))
            have HTL : Hid (t.1.length ≤ 1000000) := by have := htb.out.1; show _ ≤ _; omega
            have HTL2 : Hid ((advS 2 t).1.length ≤ 1000000) := Nat.le_trans (adv_len 2 t) HTL.out
            have HTL3 : Hid ((advS (numS t) (advS 2 t)).1.length ≤ 800000) := Nat.le_trans (adv_len _ _) (Nat.le_trans (adv_len 2 t) htb.out.1)
            have HTM3 : Hid (∀ x ∈ (advS (numS t) (advS 2 t)).1, x < 256) := rest_mem _ _ _ (rest_mem 2 t.1 t.2 htm.out)
            have HXM : Hid (∀ x ∈ nextN (numS t) (advS 2 t).1 (advS 2 t).2, x < 256) := next_mem _ _ _ (rest_mem 2 t.1 t.2 htm.out)
            have HRD : Hid (RowIs wr.drew rb t.1 t.2) := hr.out
            obtain ⟨q, hq⟩ : ∃ q, q = numS t := ⟨_, rfl⟩
            have HQ : Hid (q ≤ 70000) := by show _ ≤ _; rw [hq]; have := num_lt t htm.out; omega
            have HQQ : Hid (leN (nextN 2 t.1 t.2) = q) := hq.symm
            rw [← hq] at HFN HTS HTL3 HTM3 HXM
            have eq1 : IntKind.i64.wrap (q : Int) = (q : Int) := by have := HQ.out; exact IntWalk.i64_in _ (by omega)
            have ek : IntKind.i64.wrap ((k : Int) + 1) = (k : Int) + 1 := by have h1 := HK.out; have h2 := HN.out.2; exact IntWalk.i64_in _ (by omega)
            clear hq ht0 hlt hk hf
            go_wp2_with fail
            have hS : wr.drew.cell? ⟨pb, 0, none⟩ = some (.slice a5 k c5) := (cells_at (w := wr.drew) hp.out 0).trans rfl
            refine wp_region_T (S := fun w' => w'.cell? ⟨pb, 0, none⟩ = some (.slice a5 k c5)) (z := 10) (by kernel_rfl) ?_
            change wpAnyT _ _ _ _ _ _ 11 #[false, false, false, false, false, false, false, false, false, false, false] _ _
            refine wpAnyT_take (i := 0) (v := ?_) rfl (by kernel_rfl) (by kernel_rfl) (by kernel_rfl) (by kernel_rfl) (fun _ _ _ h => h) (Or.inl ⟨by rfl, ?hy⟩) hS ?_
            case hy => intro w' hSw; go_simp; try with_reducible rfl
            simp only [List.getElem_toArray, List.getElem_cons_succ, List.getElem_cons_zero, Act.put, List.setIfInBounds_toArray, List.set_cons_zero, List.set_cons_succ]
            change wpAnyT _ _ _ _ _ _ 10 #[true, false, false, false, false, false, false, false, false, false, false] _ _
            refine wpAnyT_take (i := 1) (v := ?_) rfl (by kernel_rfl) (by kernel_rfl) (by kernel_rfl) (by kernel_rfl) (fun _ _ _ h => h) (Or.inl ⟨by rfl, ?hy⟩) hS ?_
            case hy => intro w' hSw; have hc1 : w'.cell? ⟨pb, 0, none⟩ = some (.slice a5 k c5) := hSw; go_simp; try with_reducible rfl
            simp only [List.getElem_toArray, List.getElem_cons_succ, List.getElem_cons_zero, Act.put, List.setIfInBounds_toArray, List.set_cons_zero, List.set_cons_succ]
            change wpAnyT _ _ _ _ _ _ 9 #[true, true, false, false, false, false, false, false, false, false, false] _ _
            refine wpAnyT_take (i := 2) (v := ?_) rfl (by kernel_rfl) (by kernel_rfl) (by kernel_rfl) (by kernel_rfl) (fun _ _ _ h => h) (Or.inl ⟨by rfl, ?hy⟩) hS ?_
            case hy => intro w' hSw; go_simp; try with_reducible rfl
            simp only [List.getElem_toArray, List.getElem_cons_succ, List.getElem_cons_zero, Act.put, List.setIfInBounds_toArray, List.set_cons_zero, List.set_cons_succ]
            change wpAnyT _ _ _ _ _ _ 8 #[true, true, true, false, false, false, false, false, false, false, false] _ _
            refine wpAnyT_take (i := 3) (v := ?_) rfl (by kernel_rfl) (by kernel_rfl) (by kernel_rfl) (by kernel_rfl) (fun _ _ _ h => h) (Or.inl ⟨by rfl, ?hy⟩) hS ?_
            case hy => intro w' hSw; go_simp; try with_reducible rfl
            simp only [List.getElem_toArray, List.getElem_cons_succ, List.getElem_cons_zero, Act.put, List.setIfInBounds_toArray, List.set_cons_zero, List.set_cons_succ]
            change wpAnyT _ _ _ _ _ _ 7 #[true, true, true, true, false, false, false, false, false, false, false] _ _
            refine wpAnyT_ready (rs := [4]) (by kernel_rfl) (by simp) ?_
            refine AllReadyT.cons rfl (fun K hK => ?_) AllReadyT.nil
            rw [if_pos (by rfl)]
            go_simp
            refine (rnum_c rb t.1 HTL.out t.2 wr.drew HRD.out).mono ?_
            rintro e w5 ⟨rfl, hr5, hs5⟩
            rw [HQQ.out]
            have hp5 := (hs5.2 _ (lt_of_block (w := wr.drew) hp.out) (by have := HPB.out; omega)).trans hp.out
            have hS5 : w5.cell? ⟨pb, 0, none⟩ = some (.slice a5 k c5) := (cells_at hp5 0).trans rfl
            refine hK.out _ _ (fun _ => hS5) ?_
            clear hK K
            simp only [List.getElem_toArray, List.getElem_cons_succ, List.getElem_cons_zero, Act.put, List.setIfInBounds_toArray, List.set_cons_zero, List.set_cons_succ]
            change wpAnyT _ _ _ _ _ _ 6 #[true, true, true, true, true, false, false, false, false, false, false] _ _
            refine wpAnyT_take (i := 5) (v := ?_) rfl (by kernel_rfl) (by kernel_rfl) (by kernel_rfl) (by kernel_rfl) (fun _ _ _ h => h) (Or.inl ⟨by rfl, ?hy⟩) hS5 ?_
            case hy => intro w' hSw; go_simp; try with_reducible rfl
            simp only [List.getElem_toArray, List.getElem_cons_succ, List.getElem_cons_zero, Act.put, List.setIfInBounds_toArray, List.set_cons_zero, List.set_cons_succ]
            change wpAnyT _ _ _ _ _ _ 5 #[true, true, true, true, true, true, false, false, false, false, false] _ _
            refine wpAnyT_ready (rs := [6]) (by kernel_rfl) (by simp) ?_
            refine AllReadyT.cons rfl (fun K hK => ?_) AllReadyT.nil
            rw [if_pos (by rfl)]
            go_simp
            refine (rbytes_c rb q HQ.out q rfl (advS 2 t).1 HTL2.out (advS 2 t).2 w5 hr5).mono ?_
            rintro e w6 ⟨⟨v6, rfl, hown6⟩, hr6, hs6⟩
            obtain ⟨a6, c6, hv6⟩ := own_slice hown6
            obtain ⟨x6, hx6⟩ : ∃ x, x = nextN q (advS 2 t).1 (advS 2 t).2 := ⟨_, rfl⟩
            rw [← hx6] at hown6 hv6
            obtain ⟨l6, hl6⟩ : ∃ l, l = x6.length := ⟨_, rfl⟩
            rw [← hl6] at hv6
            subst hv6
            have HL6 := Lib.hid hl6
            clear hl6
            have hp6 := (hs6.2 _ (lt_of_block hp5) (by have := HPB.out; omega)).trans hp5
            have hS6 : w6.cell? ⟨pb, 0, none⟩ = some (.slice a5 k c5) := (cells_at hp6 0).trans rfl
            refine hK.out _ _ (fun _ => hS6) ?_
            clear hK K
            simp only [List.getElem_toArray, List.getElem_cons_succ, List.getElem_cons_zero, Act.put, List.setIfInBounds_toArray, List.set_cons_zero, List.set_cons_succ]
            change wpAnyT _ _ _ _ _ _ 4 #[true, true, true, true, true, true, true, false, false, false, false] _ _
            refine wpAnyT_ready (rs := [7]) (by kernel_rfl) (by simp) ?_
            refine AllReadyT.cons rfl (fun K hK => ?_) AllReadyT.nil
            rw [if_pos (by rfl)]
            go_simp
            have hb7 : Below w6.heap.size w6 (w6.alloc (.cells #[.slice a6 l6 c6] 27)) := (Below.refl _ _).alloc (Nat.le_refl _) _
            have hp7 := (hb7.block _ (lt_of_block hp6)).trans hp6
            have hS7 : (w6.alloc (.cells #[.slice a6 l6 c6] 27)).cell? ⟨pb, 0, none⟩ = some (.slice a5 k c5) := (cells_at hp7 0).trans rfl
            have hn7 : (w6.alloc (.cells #[.slice a6 l6 c6] 27)).heap[w6.heap.size]? = some (.cells #[.slice a6 l6 c6] 27 (0, 0)) := heap_new' _ _
            refine hK.out _ (w6.alloc (.cells #[.slice a6 l6 c6] 27)) (fun _ => hS7) ?_
            clear hK K
            simp only [List.getElem_toArray, List.getElem_cons_succ, List.getElem_cons_zero, Act.put, List.setIfInBounds_toArray, List.set_cons_zero, List.set_cons_succ]
            change wpAnyT _ _ _ _ _ _ 3 #[true, true, true, true, true, true, true, true, false, false, false] _ _
            generalize hw7 : w6.alloc (.cells #[.slice a6 l6 c6] 27) = w7 at *
            refine wpAnyT_ready (rs := [8]) (by kernel_rfl) (by simp) ?_
            refine AllReadyT.cons rfl (fun K hK => ?_) AllReadyT.nil
            rw [if_pos (by rfl)]
            have hs67 : Save rb rb wr.drew w7 := (hs5.trans hs6).trans (Save.of_below hb7 (by have := lt_of_block hp6; have := HPB.out; omega))
            have hro7 : w7.ownsRow (pb + 1) 27 1 (.slice a5 k c5) k xs := own_keep (w := wr.drew) hown.out (fun g h => hs67.2 g (hown.out.lt g h).2 (by have := (hown.out.lt g h).1; have := HPB.out; omega))
            refine wp_append_row (v := .slice a5 k c5) (base := pb + 1) (n := k) (xs := xs) (g := w6.heap.size) (u := .slice a6 l6 c6) (.tmp 39) (.tmp 45) rfl rfl hro7 rfl ((cells_at hn7 0).trans rfl) rfl (by have := HN.out.2; have := HK.out; omega) (lt_of_block hp7) ?_
            intro v8 w8 hown8 hgr8
            have hp8 := (hgr8.block _ (lt_of_block hp7) (fun e => by have := (hro7.lt _ e.symm).1; omega)).trans hp7
            have hS8 : w8.cell? ⟨pb, 0, none⟩ = some (.slice a5 k c5) := (cells_at hp8 0).trans rfl
            obtain ⟨a8, c8, hv8⟩ := own_sliceR hown8
            subst hv8
            refine hK.out _ _ (fun _ => hS8) ?_
            clear hK K
            simp only [List.getElem_toArray, List.getElem_cons_succ, List.getElem_cons_zero, Act.put, List.setIfInBounds_toArray, List.set_cons_zero, List.set_cons_succ]
            change wpAnyT _ _ _ _ _ _ 2 #[true, true, true, true, true, true, true, true, true, false, false] _ _
            refine wpAnyT_take (i := 9) (v := ?_) rfl (by kernel_rfl) (by kernel_rfl) (by kernel_rfl) (by kernel_rfl) (fun _ _ _ h => h) (Or.inl ⟨by rfl, ?hy⟩) hS8 ?_
            case hy => intro w' hSw; go_simp; try with_reducible rfl
            simp only [List.getElem_toArray, List.getElem_cons_succ, List.getElem_cons_zero, Act.put, List.setIfInBounds_toArray, List.set_cons_zero, List.set_cons_succ]
            change wpAnyT _ _ _ _ _ _ 1 #[true, true, true, true, true, true, true, true, true, true, false] _ _
            refine wpAnyT_ready (rs := [10]) (by kernel_rfl) (by simp) ?_
            refine AllReadyT.cons rfl (fun K hK => ?_) AllReadyT.nil
            rw [if_pos (by rfl)]
            have f8 := free_at hp8 0
            go_simp
            refine hK.out _ (w8.setCell ⟨pb, 0, none⟩ (.slice a8 (k + 1) c8)) (fun h => absurd h (by omega)) ?_
            clear hK K
            simp only [List.getElem_toArray, List.getElem_cons_succ, List.getElem_cons_zero, Act.put, List.setIfInBounds_toArray, List.set_cons_zero, List.set_cons_succ]
            change wpAnyT _ _ _ _ _ _ 0 #[true, true, true, true, true, true, true, true, true, true, true] _ _
            refine wpAnyT_done (by kernel_rfl) ?_ _
            have nb := block_at hp8 0 (.slice a8 (k + 1) c8)
            rw [pack_set0] at nb
            have HN1 := Lib.hid nb
            have HN2 : Hid ((w8.setCell ⟨pb, 0, none⟩ (.slice a8 (k + 1) c8)).ownsRow (pb + 1) 27 1 (.slice a8 (k + 1) c8) (k + 1) (xs ++ [.slice a6 l6 c6])) := own_keep hown8 (fun g h => Below.heap_setCell _ _ _ _ (by have := (hown8.lt g h).1; intro e; have e2 : g = pb := e; omega))
            have hst : ∀ (g : Nat) (cur : Array Value), w8.heap[g]? = some (Obj.cells cur 5 (0, 0)) → (w8.setCell ⟨pb, 0, none⟩ (.slice a8 (k + 1) c8)).heap[g]? = w8.heap[g]? := fun g cur hg => Below.heap_setCell _ _ _ _ (typed_ne hg hp8 (by decide))
            have hgs : ∀ (g : Nat) (cur : Array Value), w7.heap[g]? = some (Obj.cells cur 5 (0, 0)) → w8.heap[g]? = w7.heap[g]? := fun g cur hg => hgr8.block g (lt_of_block hg) (own_ne hg hro7)
            have hrt : ∃ A, wr.heap[rb]? = some (Obj.cells A 73 (0, 0)) := by obtain ⟨u, h, _⟩ := hr.out; exact ⟨_, h⟩
            obtain ⟨rA, hrA⟩ := hrt
            have hrs : ∀ (g : Nat) (cur : Array Value), wr.heap[g]? = some (Obj.cells cur 5 (0, 0)) → w7.heap[g]? = wr.heap[g]? := fun g cur hg => hs67.2 g (lt_of_block hg) (typed_ne hg hrA (by decide))
            have h67 : ∀ (g : Nat) (cur : Array Value), w6.heap[g]? = some (Obj.cells cur 5 (0, 0)) → w7.heap[g]? = w6.heap[g]? := fun g cur hg => hb7.block g (lt_of_block hg)
            have HN3 : Hid (RowsO (w8.setCell ⟨pb, 0, none⟩ (.slice a8 (k + 1) c8)) (xs ++ [.slice a6 l6 c6]) (L ++ [nextN q (advS 2 t).1 (advS 2 t).2])) := by
              have ho6 : w6.ownsRow 0 5 1 (.slice a6 l6 c6) x6.length (bA x6).toList := own_mono hown6 (Nat.zero_le _)
              refine RowsO.snoc (((hro.out.keep hrs).keep hgs).keep hst) HXM.out ?_
              rw [← hx6]
              exact own_typed (own_typed (own_typed ho6 h67) hgs) hst
            have hz7 := (hs67.2 _ (lt_of_block (w := wr.drew) hz.out) (by have := HRB.out; omega)).trans hz.out
            have hz8 := (hgr8.block _ (lt_of_block hz7) (fun e => by have := (hro7.lt _ e.symm).1; have := HPB.out; have := HRB.out; omega)).trans hz7
            have HN4 := Lib.hid ((Below.heap_setCell w8 ⟨pb, 0, none⟩ (.slice a8 (k + 1) c8) w.heap.size (by have := HPB.out; have := HRB.out; show w.heap.size ≠ pb; omega)).trans hz8)
            have hr7 : RowIs w7 rb (advS q (advS 2 t)).1 (advS q (advS 2 t)).2 := RowIs.far hr6 (hb7.mono (by have := lt_of_block hp6; have := HPB.out; omega))
            have hb8 : Below (rb + 1) w7 w8 := (Below.refl _ _).grown hgr8 (by have := lt_of_block hp7; have := HPB.out; omega) (fun g h => by have := (hro7.lt g h).1; have := HPB.out; omega)
            have hb9 : Below (rb + 1) w7 (w8.setCell ⟨pb, 0, none⟩ (.slice a8 (k + 1) c8)) := hb8.setCell (by have := HPB.out; show rb + 1 ≤ pb; omega) _
            have HN5 : Hid (RowIs (w8.setCell ⟨pb, 0, none⟩ (.slice a8 (k + 1) c8)) rb (advS q (advS 2 t)).1 (advS q (advS 2 t)).2) := hr7.far hb9
            have HN6 : Hid (Below w.heap.size w (w8.setCell ⟨pb, 0, none⟩ (.slice a8 (k + 1) c8))) := (hbel.out.drew.trans (hs67.1.mono (Nat.le_of_lt HRB.out))).trans (hb9.mono (by have := HRB.out; omega))
            have HN7 : Hid ((L ++ [nextN q (advS 2 t).1 (advS 2 t).2]).length = k + 1) := by show _ = _; rw [List.length_append, hLk.out]; rfl
            clear nb hst hgs hrA hrs h67 hz7 hz8 hr7 hb8 hb9 hS hS5 hS6 hS7 hS8 hp5 hp6 hp7 hp8 hr5 hr6 hs5 hs6 hs67 hb7 hn7 hw7 hro7 hown6 hown8 hgr8 hx6 f8 hp hown hro hLk hr htb htm hz hbel
            go_wp2
            go_roundw
            case rel => exact ⟨k + 1, HK.out, by go_num, a8, c8, _, _, advS q (advS 2 t), HN1.out, HN2.out, HN3.out, HN7.out, HN5.out, HFN.out, ⟨HTL3.out, HTS.out.1, HTS.out.2⟩, HTM3.out, HN4.out, HN6.out⟩
            case measure => simp [intOf]; have := HK.out; omega
          · have HFIN : Hid (finN b = (L, t)) := by
              have h := hf.out
              rw [show n - k = (n - (k + 1)) + 1 by omega, loop_stop _ _ _ ht0] at h; exact h.symm
            obtain ⟨e0, he0⟩ : ∃ e0, e0 = t.2 := ⟨_, rfl⟩
            rw [← he0]
            have he0n : ¬ e0 = 0 := by rw [he0]; exact ht0
            have de0 : decide (e0 = 0) = false := by simpa using he0n
            clear he0 ht0 hf hlt hk
            have HPL : Hid ((packA (.slice a5 k c5) R).size = 17) := by show _ = _; rw [pack_size, H16.out]
            have hra := rowsAt_of hown.out hro.out.rows
            have HRA := Lib.hid hra.2
            have HBLEN : Hid (mayP L R = true → (packBody L R).length ≤ 900000) := fun _ => by
              have h1 := htb.out.2.1
              have h2 : (numsB R).length = 32 := by
                have e := nums_len R
                rw [H16.out] at e
                exact e
              have h3 : (packBody L R).length = 6 + (numsB R).length + (rowsB L).length := by unfold packBody headB; simp [lowB_len]; omega
              have h4 := HL.out
              omega
            clear hra
            go_wp2_with (first
              | (refine wpList_load_row rfl 33 (.tmp 5) rfl pb rfl _ _ _ _ hp.out Try.underlying33 rfl (by rw [pack33, HPL.out]) ?_)
              | fail)
            refine (pbytes_c a5 k c5 L R hLk.out (by have := HN.out.2; have := HKN.out; omega) H16.out HBLEN.out wr HRA.out).mono ?_
            rintro e w5 ⟨⟨v5, rfl, hnil5, hown5⟩, hb5⟩
            have HR5 : Hid (RowIs w5 rb t.1 t.2) := hr.out.far (hb5.mono (by have := lt_of_block hp.out; have := HPB.out; omega))
            have HP5 := Lib.hid ((hb5.block _ (lt_of_block hp.out)).trans hp.out)
            have HZ5 := Lib.hid ((hb5.block _ (lt_of_block hz.out)).trans hz.out)
            have HE5 : Hid (Below w.heap.size w w5) := hbel.out.trans (hb5.mono hbel.out.size)
            have HRA5 := Lib.hid (HRA.out.up hb5 (Nat.le_refl _))
            have HOW5 := Lib.hid (own_up hown.out hb5)
            have HRO5 : Hid (RowsO w5 xs L) := hro.out.keep (fun g cur hg => hb5.block g (lt_of_block hg))
            have HNIL5 := Lib.hid hnil5
            have HOWN5 := Lib.hid hown5
            clear hnil5 hown5 hb5 hp hown hro hr hz hbel htb htm
            go_wp2_with fail
            refine (rowerr_c rb t.1 t.2 w5 HR5.out).mono ?_
            rintro e w6 ⟨rfl, rfl⟩
            obtain ⟨et, het⟩ : ∃ et, et = t.2 := ⟨_, rfl⟩
            have HET := Lib.hid het
            rw [← het]
            clear het
            by_cases h0 : et = 0
            · have d0 : decide (et ≠ 0) = false := by simpa using h0
              subst h0
              by_cases hmay : mayP L R = true
              · have HMAY := Lib.hid hmay
                have hown5 := HOWN5.out hmay
                rw [hmay, show errB true = 0 from rfl]
                obtain ⟨a7, c7, hv7, hb7, hl7, _⟩ := own_bytes (packBytes_lt (rowsAt_lt HRA5.out)) hown5
                obtain ⟨m7, hm7⟩ : ∃ m, m = (packBytes L R).length := ⟨_, rfl⟩
                rw [← hm7] at hv7
                subst hv7
                obtain ⟨PB, hPB⟩ : ∃ PB, PB = packBytes L R := ⟨_, rfl⟩
                have HPB7 := Lib.hid hPB
                rw [← hPB] at hb7 hm7
                have HB7 := Lib.hid hb7
                have HM7 := Lib.hid hm7.symm
                obtain ⟨va0, vc0, hve0, hvb0, _⟩ := HV.out
                have hvv : va = va0 ∧ vc = vc0 := by injection hve0 with h1 _ h2; exact ⟨h1, h2⟩
                have HVB : Hid (BytesAt w5 va vc b) := by rw [hvv.1, hvv.2]; exact hvb0.up HE5.out (Nat.le_refl _)
                clear hmay hown5 hb7 hl7 hm7 hve0 hvb0 hvv hPB
                go_wp2_with fail
                refine (equal2_c va a7 vc c7 bl m7 b PB HBL.out.symm HM7.out w5 HVB.out HB7.out).mono ?_
                rintro e w7 ⟨rfl, rfl⟩
                by_cases heq : b = PB
                · have deq : decide (b = PB) = true := decide_eq_true heq
                  rw [deq]
                  have HPS : Hid (parseN b = some (L, R)) := parse_some HFIN.out HRR.out ⟨HET.out.symm, HMAY.out, heq.trans HPB7.out⟩
                  clear heq deq
                  go_wp2_with (first
                    | (refine wpList_load_row rfl 33 (.tmp 5) rfl pb rfl _ _ _ _ HP5.out Try.underlying33 rfl (by rw [pack33, HPL.out]) ?_)
                    | (refine wpList_store_row rfl 33 (.tmp 2) (.tmp 67) rfl w.heap.size (packA (.slice a5 k c5) R) rfl rfl 33 _ HZ5.out (by rw [pack33, HPL.out]) (by rw [HPL.out]; rfl) (packA_one _ _ _ _) ?_)
                    | fail)
                  refine bodyPost_ret (results_row_tmp rfl _ _ w.heap.size 33 (packA (.slice a5 k c5) R) (0, 0) _ rfl (setRow_heap _ _ _ _ _ _ HZ5.out) Try.underlying33 rfl (by rw [pack33, HPL.out])) rfl ?_
                  have hbz : Below w.heap.size w5 (w5.setRow w.heap.size (packA (.slice a5 k c5) R)) := below_setRow (Below.refl _ _) (Nat.le_refl _) _
                  refine ⟨?_, HE5.out.trans hbz⟩
                  unfold ParseRes
                  rw [HPS.out]
                  refine ⟨a5, c5, by rw [hLk.out]; rfl, ?_⟩
                  exact (rowsAt_of (own_keep HOW5.out (fun g h => setRow_other _ _ _ _ (by have := (HOW5.out.lt g h).1; have := HPB.out; have := HRB.out; omega))) ((HRO5.out.keep (fun g cur hg => setRow_other _ _ _ _ (typed_ne hg HZ5.out (by decide)))).rows)).2
                · have deq : decide (b = PB) = false := decide_eq_false heq
                  rw [deq]
                  have HPN : Hid (parseN b = none) := parse_none HFIN.out HRR.out (fun h => heq (h.2.2.trans HPB7.out.symm))
                  clear heq deq
                  go_wp2_with (first
                    | (refine wpList_store_row rfl 33 (.tmp 2) (.tmp 66) rfl w.heap.size #[.slice none 0 0, .int .i64 0, .int .i64 0, .int .i64 0, .int .i64 0, .int .i64 0, .int .i64 0, .int .i64 0, .int .i64 0, .int .i64 0, .int .i64 0, .int .i64 0, .int .i64 0, .int .i64 0, .int .i64 0, .int .i64 0, .int .i64 0] rfl rfl 33 _ HZ5.out (by rw [pack33]; rfl) (by rfl) zp_one ?_)
                    | fail)
                  refine bodyPost_ret (results_row_tmp rfl _ _ w.heap.size 33 #[.slice none 0 0, .int .i64 0, .int .i64 0, .int .i64 0, .int .i64 0, .int .i64 0, .int .i64 0, .int .i64 0, .int .i64 0, .int .i64 0, .int .i64 0, .int .i64 0, .int .i64 0, .int .i64 0, .int .i64 0, .int .i64 0, .int .i64 0] (0, 0) _ rfl (setRow_heap _ _ _ _ _ _ HZ5.out) Try.underlying33 rfl (by rw [pack33]; rfl)) rfl ?_
                  refine ⟨?_, below_setRow HE5.out (Nat.le_refl _) _⟩
                  unfold ParseRes
                  rw [HPN.out]
                  rfl
              · have hmf : mayP L R = false := by simpa using hmay
                rw [hmf, show errB false = 1 from rfl]
                have hn5 := HNIL5.out hmf
                subst hn5
                have HPN : Hid (parseN b = none) := parse_none HFIN.out HRR.out (fun h => hmay h.2.1)
                clear hmay hmf
                go_wp2_with (first
                  | (refine wpList_store_row rfl 33 (.tmp 2) (.tmp 66) rfl w.heap.size #[.slice none 0 0, .int .i64 0, .int .i64 0, .int .i64 0, .int .i64 0, .int .i64 0, .int .i64 0, .int .i64 0, .int .i64 0, .int .i64 0, .int .i64 0, .int .i64 0, .int .i64 0, .int .i64 0, .int .i64 0, .int .i64 0, .int .i64 0] rfl rfl 33 _ HZ5.out (by rw [pack33]; rfl) (by rfl) zp_one ?_)
                  | fail)
                refine bodyPost_ret (results_row_tmp rfl _ _ w.heap.size 33 #[.slice none 0 0, .int .i64 0, .int .i64 0, .int .i64 0, .int .i64 0, .int .i64 0, .int .i64 0, .int .i64 0, .int .i64 0, .int .i64 0, .int .i64 0, .int .i64 0, .int .i64 0, .int .i64 0, .int .i64 0, .int .i64 0, .int .i64 0] (0, 0) _ rfl (setRow_heap _ _ _ _ _ _ HZ5.out) Try.underlying33 rfl (by rw [pack33]; rfl)) rfl ?_
                refine ⟨?_, below_setRow HE5.out (Nat.le_refl _) _⟩
                unfold ParseRes
                rw [HPN.out]
                rfl
            · have d0 : decide (et ≠ 0) = true := by simpa using h0
              have HPN : Hid (parseN b = none) := parse_none HFIN.out HRR.out (fun h => h0 (HET.out.trans h.1))
              obtain ⟨ev, hev⟩ : ∃ ev, ev = errB (mayP L R) := ⟨_, rfl⟩
              rw [← hev]
              clear hev
              go_wp2_with (first
                | (refine wpList_store_row rfl 33 (.tmp 2) (.tmp 66) rfl w.heap.size #[.slice none 0 0, .int .i64 0, .int .i64 0, .int .i64 0, .int .i64 0, .int .i64 0, .int .i64 0, .int .i64 0, .int .i64 0, .int .i64 0, .int .i64 0, .int .i64 0, .int .i64 0, .int .i64 0, .int .i64 0, .int .i64 0, .int .i64 0] rfl rfl 33 _ HZ5.out (by rw [pack33]; rfl) (by rfl) zp_one ?_)
                | fail)
              refine bodyPost_ret (results_row_tmp rfl _ _ w.heap.size 33 #[.slice none 0 0, .int .i64 0, .int .i64 0, .int .i64 0, .int .i64 0, .int .i64 0, .int .i64 0, .int .i64 0, .int .i64 0, .int .i64 0, .int .i64 0, .int .i64 0, .int .i64 0, .int .i64 0, .int .i64 0, .int .i64 0, .int .i64 0] (0, 0) _ rfl (setRow_heap _ _ _ _ _ _ HZ5.out) Try.underlying33 rfl (by rw [pack33]; rfl)) rfl ?_
              refine ⟨?_, below_setRow HE5.out (Nat.le_refl _) _⟩
              unfold ParseRes
              rw [HPN.out]
              rfl
        · have hkn : k = n := by omega
          have hd2 : decide ((k : Int) < (n : Int)) = false := by simp; omega
          have HFIN : Hid (finN b = (L, t)) := by
            have h := hf.out
            rw [hkn, Nat.sub_self] at h; exact h.symm
          clear hf hkn hk
          have HPL : Hid ((packA (.slice a5 k c5) R).size = 17) := by show _ = _; rw [pack_size, H16.out]
          have hra := rowsAt_of hown.out hro.out.rows
          have HRA := Lib.hid hra.2
          have HBLEN : Hid (mayP L R = true → (packBody L R).length ≤ 900000) := fun _ => by
            have h1 := htb.out.2.1
            have h2 : (numsB R).length = 32 := by
              have e := nums_len R
              rw [H16.out] at e
              exact e
            have h3 : (packBody L R).length = 6 + (numsB R).length + (rowsB L).length := by unfold packBody headB; simp [lowB_len]; omega
            have h4 := HL.out
            omega
          clear hra
          go_wp2_with (first
            | (refine wpList_load_row rfl 33 (.tmp 5) rfl pb rfl _ _ _ _ hp.out Try.underlying33 rfl (by rw [pack33, HPL.out]) ?_)
            | fail)
          refine (pbytes_c a5 k c5 L R hLk.out (by have := HN.out.2; have := HKN.out; omega) H16.out HBLEN.out wr HRA.out).mono ?_
          rintro e w5 ⟨⟨v5, rfl, hnil5, hown5⟩, hb5⟩
          have HR5 : Hid (RowIs w5 rb t.1 t.2) := hr.out.far (hb5.mono (by have := lt_of_block hp.out; have := HPB.out; omega))
          have HP5 := Lib.hid ((hb5.block _ (lt_of_block hp.out)).trans hp.out)
          have HZ5 := Lib.hid ((hb5.block _ (lt_of_block hz.out)).trans hz.out)
          have HE5 : Hid (Below w.heap.size w w5) := hbel.out.trans (hb5.mono hbel.out.size)
          have HRA5 := Lib.hid (HRA.out.up hb5 (Nat.le_refl _))
          have HOW5 := Lib.hid (own_up hown.out hb5)
          have HRO5 : Hid (RowsO w5 xs L) := hro.out.keep (fun g cur hg => hb5.block g (lt_of_block hg))
          have HNIL5 := Lib.hid hnil5
          have HOWN5 := Lib.hid hown5
          clear hnil5 hown5 hb5 hp hown hro hr hz hbel htb htm
          go_wp2_with fail
          refine (rowerr_c rb t.1 t.2 w5 HR5.out).mono ?_
          rintro e w6 ⟨rfl, rfl⟩
          obtain ⟨et, het⟩ : ∃ et, et = t.2 := ⟨_, rfl⟩
          have HET := Lib.hid het
          rw [← het]
          clear het
          by_cases h0 : et = 0
          · have d0 : decide (et ≠ 0) = false := by simpa using h0
            subst h0
            by_cases hmay : mayP L R = true
            · have HMAY := Lib.hid hmay
              have hown5 := HOWN5.out hmay
              rw [hmay, show errB true = 0 from rfl]
              obtain ⟨a7, c7, hv7, hb7, hl7, _⟩ := own_bytes (packBytes_lt (rowsAt_lt HRA5.out)) hown5
              obtain ⟨m7, hm7⟩ : ∃ m, m = (packBytes L R).length := ⟨_, rfl⟩
              rw [← hm7] at hv7
              subst hv7
              obtain ⟨PB, hPB⟩ : ∃ PB, PB = packBytes L R := ⟨_, rfl⟩
              have HPB7 := Lib.hid hPB
              rw [← hPB] at hb7 hm7
              have HB7 := Lib.hid hb7
              have HM7 := Lib.hid hm7.symm
              obtain ⟨va0, vc0, hve0, hvb0, _⟩ := HV.out
              have hvv : va = va0 ∧ vc = vc0 := by injection hve0 with h1 _ h2; exact ⟨h1, h2⟩
              have HVB : Hid (BytesAt w5 va vc b) := by rw [hvv.1, hvv.2]; exact hvb0.up HE5.out (Nat.le_refl _)
              clear hmay hown5 hb7 hl7 hm7 hve0 hvb0 hvv hPB
              go_wp2_with fail
              refine (equal2_c va a7 vc c7 bl m7 b PB HBL.out.symm HM7.out w5 HVB.out HB7.out).mono ?_
              rintro e w7 ⟨rfl, rfl⟩
              by_cases heq : b = PB
              · have deq : decide (b = PB) = true := decide_eq_true heq
                rw [deq]
                have HPS : Hid (parseN b = some (L, R)) := parse_some HFIN.out HRR.out ⟨HET.out.symm, HMAY.out, heq.trans HPB7.out⟩
                clear heq deq
                go_wp2_with (first
                  | (refine wpList_load_row rfl 33 (.tmp 5) rfl pb rfl _ _ _ _ HP5.out Try.underlying33 rfl (by rw [pack33, HPL.out]) ?_)
                  | (refine wpList_store_row rfl 33 (.tmp 2) (.tmp 67) rfl w.heap.size (packA (.slice a5 k c5) R) rfl rfl 33 _ HZ5.out (by rw [pack33, HPL.out]) (by rw [HPL.out]; rfl) (packA_one _ _ _ _) ?_)
                  | fail)
                refine bodyPost_ret (results_row_tmp rfl _ _ w.heap.size 33 (packA (.slice a5 k c5) R) (0, 0) _ rfl (setRow_heap _ _ _ _ _ _ HZ5.out) Try.underlying33 rfl (by rw [pack33, HPL.out])) rfl ?_
                have hbz : Below w.heap.size w5 (w5.setRow w.heap.size (packA (.slice a5 k c5) R)) := below_setRow (Below.refl _ _) (Nat.le_refl _) _
                refine ⟨?_, HE5.out.trans hbz⟩
                unfold ParseRes
                rw [HPS.out]
                refine ⟨a5, c5, by rw [hLk.out]; rfl, ?_⟩
                exact (rowsAt_of (own_keep HOW5.out (fun g h => setRow_other _ _ _ _ (by have := (HOW5.out.lt g h).1; have := HPB.out; have := HRB.out; omega))) ((HRO5.out.keep (fun g cur hg => setRow_other _ _ _ _ (typed_ne hg HZ5.out (by decide)))).rows)).2
              · have deq : decide (b = PB) = false := decide_eq_false heq
                rw [deq]
                have HPN : Hid (parseN b = none) := parse_none HFIN.out HRR.out (fun h => heq (h.2.2.trans HPB7.out.symm))
                clear heq deq
                go_wp2_with (first
                  | (refine wpList_store_row rfl 33 (.tmp 2) (.tmp 66) rfl w.heap.size #[.slice none 0 0, .int .i64 0, .int .i64 0, .int .i64 0, .int .i64 0, .int .i64 0, .int .i64 0, .int .i64 0, .int .i64 0, .int .i64 0, .int .i64 0, .int .i64 0, .int .i64 0, .int .i64 0, .int .i64 0, .int .i64 0, .int .i64 0] rfl rfl 33 _ HZ5.out (by rw [pack33]; rfl) (by rfl) zp_one ?_)
                  | fail)
                refine bodyPost_ret (results_row_tmp rfl _ _ w.heap.size 33 #[.slice none 0 0, .int .i64 0, .int .i64 0, .int .i64 0, .int .i64 0, .int .i64 0, .int .i64 0, .int .i64 0, .int .i64 0, .int .i64 0, .int .i64 0, .int .i64 0, .int .i64 0, .int .i64 0, .int .i64 0, .int .i64 0, .int .i64 0] (0, 0) _ rfl (setRow_heap _ _ _ _ _ _ HZ5.out) Try.underlying33 rfl (by rw [pack33]; rfl)) rfl ?_
                refine ⟨?_, below_setRow HE5.out (Nat.le_refl _) _⟩
                unfold ParseRes
                rw [HPN.out]
                rfl
            · have hmf : mayP L R = false := by simpa using hmay
              rw [hmf, show errB false = 1 from rfl]
              have hn5 := HNIL5.out hmf
              subst hn5
              have HPN : Hid (parseN b = none) := parse_none HFIN.out HRR.out (fun h => hmay h.2.1)
              clear hmay hmf
              go_wp2_with (first
                | (refine wpList_store_row rfl 33 (.tmp 2) (.tmp 66) rfl w.heap.size #[.slice none 0 0, .int .i64 0, .int .i64 0, .int .i64 0, .int .i64 0, .int .i64 0, .int .i64 0, .int .i64 0, .int .i64 0, .int .i64 0, .int .i64 0, .int .i64 0, .int .i64 0, .int .i64 0, .int .i64 0, .int .i64 0, .int .i64 0] rfl rfl 33 _ HZ5.out (by rw [pack33]; rfl) (by rfl) zp_one ?_)
                | fail)
              refine bodyPost_ret (results_row_tmp rfl _ _ w.heap.size 33 #[.slice none 0 0, .int .i64 0, .int .i64 0, .int .i64 0, .int .i64 0, .int .i64 0, .int .i64 0, .int .i64 0, .int .i64 0, .int .i64 0, .int .i64 0, .int .i64 0, .int .i64 0, .int .i64 0, .int .i64 0, .int .i64 0, .int .i64 0] (0, 0) _ rfl (setRow_heap _ _ _ _ _ _ HZ5.out) Try.underlying33 rfl (by rw [pack33]; rfl)) rfl ?_
              refine ⟨?_, below_setRow HE5.out (Nat.le_refl _) _⟩
              unfold ParseRes
              rw [HPN.out]
              rfl
          · have d0 : decide (et ≠ 0) = true := by simpa using h0
            have HPN : Hid (parseN b = none) := parse_none HFIN.out HRR.out (fun h => h0 (HET.out.trans h.1))
            obtain ⟨ev, hev⟩ : ∃ ev, ev = errB (mayP L R) := ⟨_, rfl⟩
            rw [← hev]
            clear hev
            go_wp2_with (first
              | (refine wpList_store_row rfl 33 (.tmp 2) (.tmp 66) rfl w.heap.size #[.slice none 0 0, .int .i64 0, .int .i64 0, .int .i64 0, .int .i64 0, .int .i64 0, .int .i64 0, .int .i64 0, .int .i64 0, .int .i64 0, .int .i64 0, .int .i64 0, .int .i64 0, .int .i64 0, .int .i64 0, .int .i64 0, .int .i64 0] rfl rfl 33 _ HZ5.out (by rw [pack33]; rfl) (by rfl) zp_one ?_)
              | fail)
            refine bodyPost_ret (results_row_tmp rfl _ _ w.heap.size 33 #[.slice none 0 0, .int .i64 0, .int .i64 0, .int .i64 0, .int .i64 0, .int .i64 0, .int .i64 0, .int .i64 0, .int .i64 0, .int .i64 0, .int .i64 0, .int .i64 0, .int .i64 0, .int .i64 0, .int .i64 0, .int .i64 0, .int .i64 0] (0, 0) _ rfl (setRow_heap _ _ _ _ _ _ HZ5.out) Try.underlying33 rfl (by rw [pack33]; rfl)) rfl ?_
            refine ⟨?_, below_setRow HE5.out (Nat.le_refl _) _⟩
            unfold ParseRes
            rw [HPN.out]
            rfl
end Go.Proofs.Ythpglpnonecnfaa
