/- Contracts of ctr.Apply and the law's short; bytes as a string. -/
import Derived.Test.YtjclofkkpgdjnaaXor
import Derived.Test.YtjclofkkpgdjnaaMost
import Derived.Laws.BytesString
import Derived.Laws.IdiomStrings
import Derived.Lib.BufferRead
set_option linter.unusedVariables false
set_option linter.unusedSimpArgs false
namespace Go.Proofs.Ytjclofkkpgdjnaa
open Go Go.RowKit GfM
/-- the stream's bytes -/
def strL (key : List Nat) (e b n : Nat) : List Nat := (List.range n).map fun j => (encK key (ctrB e b (j / 16))).getD (j % 16) 0
theorem strL_len (key : List Nat) (e b n : Nat) : (strL key e b n).length = n := by simp [strL]
theorem strL_get (key : List Nat) (e b n j : Nat) (h : j < n) : (strL key e b n).getD j 0 = (encK key (ctrB e b (j / 16))).getD (j % 16) 0 := by simp [strL, h]
theorem strL_lt {key : List Nat} (hkl : key.length = 16 ∨ key.length = 32) (hW : ∀ x ∈ wordsK key, x < 256) (e b n : Nat) : ∀ x ∈ strL key e b n, x < 256 := by
  intro x hx
  simp only [strL, List.mem_map] at hx
  obtain ⟨j, _, rfl⟩ := hx
  exact (encK_by hkl (ctrB_by e b _) hW).2 _ (by omega)
theorem xorL_lt {l1 l2 : List Nat} (h1 : ∀ x ∈ l1, x < 256) (h2 : ∀ x ∈ l2, x < 256) : ∀ x ∈ xorL l1 l2, x < 256 := by
  intro x hx
  simp only [xorL, List.mem_map] at hx
  obtain ⟨j, _, rfl⟩ := hx
  exact xor_lt _ _ (getD_lt h1 j) (getD_lt h2 j)
theorem xorL_back (l s : List Nat) : xorL (xorL l s) s = l := by
  apply List.ext_getElem?
  intro j
  rcases Nat.lt_or_ge j l.length with h | h
  · have h1 := xorL_get (xorL l s) s j (by rw [xorL_len]; exact h)
    rw [xorL_get l s j h, Nat.xor_assoc, Nat.xor_self, Nat.xor_zero] at h1
    rw [List.getD_eq_getElem?_getD, List.getD_eq_getElem?_getD, List.getElem?_eq_getElem (by rw [xorL_len, xorL_len]; exact h), List.getElem?_eq_getElem h] at h1
    rw [List.getElem?_eq_getElem (by rw [xorL_len, xorL_len]; exact h), List.getElem?_eq_getElem h]
    simpa using h1
  · rw [List.getElem?_eq_none (by rw [xorL_len, xorL_len]; exact h), List.getElem?_eq_none h]
theorem bytesAt_block {w : World} {q : Nat} {l : List Nat} {z : Nat × Nat} (hb : ∀ x ∈ l, x < 256) (h : w.heap[q]? = some (.cells (bA l) 5 z)) : BytesAt w (some ⟨q, 0, none⟩) l.length l :=
  ⟨hb, fun _ => ⟨q, 0, rfl, Nat.le_refl _, lt_of_block h, fun j hj => by rw [Nat.zero_add, cells_at h j, bA_get l j hj]⟩⟩
set_option maxRecDepth 100000 in
set_option maxHeartbeats 4000000 in
theorem apply_c {c bx g n0 cp : Nat} {key : List Nat} (hkl : key.length = 16 ∨ key.length = 32) (e b : Nat) (he : e < 18446744073709551616) (hb : b < 4294967296) (a : Option Addr) (cap : Nat) (l : List Nat) (n : Nat) (hl : l.length = n) (hn : n ≤ 65536) (w : World)
    (hC : Cip w c bx g n0 cp (roundsK key) (wordsK key)) (hB : BytesAt w a cap l) :
    Calls Try.prog 27 #[.pointer (some ⟨c, 0, none⟩), .int .u64 (e : Int), .int .u32 (b : Int), .slice a n cap] w fun r w' =>
      ∃ q, r = .returned (.slice (some ⟨q, 0, none⟩) n n) ∧ w.heap.size ≤ q ∧ w'.heap[q]? = some (.cells (bA (xorL l (strL key e b n))) 5 (0, 0)) ∧ Below w.heap.size w w' := by
  have hst : ∃ (s : Option Addr) (sc : Nat), True := ⟨none, 0, trivial⟩
  have hS : Calls Try.prog 40 #[.pointer (some ⟨c, 0, none⟩), .int .u64 (e : Int), .int .u32 (b : Int), .int .i64 (n : Int)] w fun r w' => ∃ s sc, r = .returned (.slice s n sc) ∧ BytesAt w' s sc (strL key e b n) ∧ Below w.heap.size w w' := by
    by_cases h0 : n = 0
    · subst h0
      refine (stream_bad _ (e : Int) (b : Int) ((0 : Nat) : Int) (by omega) w).mono ?_
      rintro r w' ⟨rfl, rfl⟩
      exact ⟨none, 0, rfl, ⟨by simp [strL], fun h => by simp [strL] at h⟩, Below.refl _ _⟩
    · refine (stream_c hkl e b n he hb (by omega) hn w hC).mono ?_
      rintro r w' ⟨q, rfl, h1, h2, h3, h4⟩
      refine ⟨_, n, rfl, ⟨strL_lt hkl hC.fbyte e b n, fun _ => ⟨q, 0, rfl, by rw [strL_len]; exact Nat.le_refl _, h2, fun j hj => ?_⟩⟩, h4⟩
      rw [strL_len] at hj
      rw [Nat.zero_add, h3 j hj, strL_get _ _ _ _ _ hj]
  have HS := Lib.hid hS
  have HB := Lib.hid hB
  have HL := Lib.hid hl
  clear hS hB hl hst hkl hC he hb
  go_enter Try.func27, Try.ntmps27
  go_wp2_with fail
  refine HS.out.mono ?_
  rintro r w1 ⟨s, sc, rfl, hs, hb1⟩
  have HB1 := Lib.hid hb1
  have HSS := Lib.hid hs
  clear hs hb1
  go_wp2_with fail
  refine (wxor_c a s cap sc l (strL key e b n) n HL.out (strL_len _ _ _ _) hn w1 (HB.out.up HB1.out (Nat.le_refl _)) HSS.out).mono ?_
  rintro r w2 ⟨q, rfl, hq, hq2, hb2⟩
  have HQ := Lib.hid hq2
  have HQ1 := Lib.hid hq
  have HB2 := Lib.hid (HB1.out.trans (hb2.mono HB1.out.size))
  clear hb2 hq2 hq
  go_wp2
  go_ret
  exact ⟨q, rfl, Nat.le_trans HB1.out.size HQ1.out, HQ.out, HB2.out⟩
/-- bytes as a string's value -/
def strV (l : List Nat) : Value := .string ⟨(l.map UInt8.ofNat).toArray⟩
theorem run_conv {w : World} {a : Option Addr} {cap : Nat} {l : List Nat} (h : BytesAt w a cap l) : (convert 32 9 (.slice a l.length cap)).run Try.prog w = .ok (strV l) w := by
  by_cases h0 : l.length = 0
  · have hl : l = [] := List.length_eq_zero_iff.1 h0
    subst hl
    rw [run_convert_bytes_string w _ _ 5 a _ cap Try.underlying32 Try.underlying5 Try.underlying9]
    cases a with
    | none => simp [Conv.bytesToString, strV]; rfl
    | some p =>
      have := run_bytesToString (P := Try.prog) w p 0 cap [] (by simp [loadCells]; rfl)
      simp only [List.length_nil]
      rw [this]; rfl
  · obtain ⟨g, o, rfl, h2, h3, h4⟩ := h.2 (by omega)
    have := run_convert_bytes_back (P := Try.prog) w 32 9 5 ⟨g, o, none⟩ cap (l.map UInt8.ofNat) Try.underlying32 Try.underlying5 Try.underlying9 (fun j hj => by
      have hj' : j < l.length := by simpa using hj
      have e1 : (⟨g, o, none⟩ : Addr).add j = ⟨g, o + j, none⟩ := by
        unfold Addr.add; split
        · next h => subst h; rfl
        · rfl
      have hlt := h.1 _ (List.getElem_mem (l := l) (h := hj'))
      rw [e1, h4 j hj', List.getD_eq_getElem?_getD, List.getElem?_eq_getElem hj']
      simp [Nat.mod_eq_of_lt hlt])
    rw [List.length_map] at this
    exact this
theorem run_conv_op {w : World} {a : Option Addr} {cap n : Nat} {l : List Nat} (hl : l.length = n) (h : BytesAt w a cap l) (E : Operand → Value) (x : Operand) (o : Oper) (ho : o.op = .convert 32 9 x) (hx : E x = .slice a n cap) :
    (execOp E o).run Try.prog w = .ok (.value (strV l)) w := by
  subst hl
  unfold execOp
  simp only [ho, hx, Sem.run_bind, run_conv h, Result.andThen_ok]
  rfl
theorem wp_conv {o : Oper} {a : Act} {w : World} {K : Act → World → Prop} {Q : Exit → Act → World → Prop} (x : Operand) {s : Option Addr} {cap n : Nat} {l : List Nat} (hl : l.length = n) (h : BytesAt w s cap l) (ho : o.op = .convert 32 9 x)
    (hx : a.eval x = .slice s n cap) (hK : K (a.put o.dst (strV l)) w) : o.wp Try.prog a w K Q := by
  unfold Oper.wp
  rw [run_conv_op hl h a.eval x o ho hx]
  exact hK
theorem strV_inj {l m : List Nat} (hl : ∀ x ∈ l, x < 256) (hm : ∀ x ∈ m, x < 256) (h : l.map UInt8.ofNat = m.map UInt8.ofNat) : l = m := by
  have e : ∀ k : List Nat, (∀ x ∈ k, x < 256) → (k.map UInt8.ofNat).map UInt8.toNat = k := by
    intro k hk
    rw [List.map_map]
    conv => rhs; rw [← List.map_id k]
    apply List.map_congr_left
    intro x hx
    simp [Nat.mod_eq_of_lt (hk x hx)]
  rw [← e l hl, ← e m hm, h]
theorem eq_strV (l m : List Nat) (hl : ∀ x ∈ l, x < 256) (hm : ∀ x ∈ m, x < 256) (w : World) : (binOp .eql 9 (strV l) (strV m)).run Try.prog w = .ok (.bool (decide (l = m))) w := by
  have key : (l.map UInt8.ofNat == m.map UInt8.ofNat) = decide (l = m) := by
    by_cases h : l = m
    · subst h; simp
    · have hne : l.map UInt8.ofNat ≠ m.map UInt8.ofNat := fun h' => h (strV_inj hl hm h')
      simp [h, hne]
  unfold strV
  go_simp
  done
end Go.Proofs.Ytjclofkkpgdjnaa
