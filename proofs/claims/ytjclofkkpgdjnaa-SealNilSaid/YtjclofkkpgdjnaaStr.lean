/- Contract of ctr.Stream. -/
import Derived.Test.YtjclofkkpgdjnaaAesQ
import Derived.Test.YtjclofkkpgdjnaaAesX
import Derived.Test.YtjclofkkpgdjnaaArrOpen
import Derived.Test.YtjclofkkpgdjnaaCtrC
set_option linter.unusedVariables false
set_option linter.unusedSimpArgs false
namespace Go.Proofs.Ytjclofkkpgdjnaa
open Go Go.RowKit GfM
theorem ctrB_by (e b l : Nat) : By (ctrB e b l) := by
  have h : ∀ x ∈ ctrB e b l, x < 256 := by
    intro x hx
    simp only [ctrB, highB, List.mem_append, List.mem_map, List.mem_cons, List.not_mem_nil, or_false] at hx
    rcases hx with ⟨_, _, rfl⟩ | ⟨_, _, rfl⟩ | ⟨_, _, rfl⟩ | rfl | rfl <;> first | exact upB_lt _ _ | omega
  refine ⟨ctrB_len e b l, fun j hj => ?_⟩
  rw [List.getD_eq_getElem?_getD, List.getElem?_eq_getElem (by rw [ctrB_len]; exact hj)]
  exact h _ (List.getElem_mem _)
/-- the stream's first k blocks -/
def strB (key : List Nat) (e b : Nat) : Nat → List Nat
  | 0 => []
  | k + 1 => strB key e b k ++ encK key (ctrB e b k)
theorem encK_len (key l : List Nat) : (encK key l).length = 16 := by simp [encK, encL, keyL]
theorem strB_len (key : List Nat) (e b : Nat) : ∀ k, (strB key e b k).length = 16 * k
  | 0 => rfl
  | k + 1 => by rw [strB, List.length_append, strB_len key e b k, encK_len]; omega
theorem strB_get (key : List Nat) (e b : Nat) : ∀ k j, j < 16 * k → (strB key e b k).getD j 0 = (encK key (ctrB e b (j / 16))).getD (j % 16) 0
  | 0, j, h => by omega
  | k + 1, j, h => by
    have hl := strB_len key e b k
    rw [strB, List.getD_eq_getElem?_getD]
    by_cases hj : j < 16 * k
    · rw [List.getElem?_append_left (by omega), ← List.getD_eq_getElem?_getD]
      exact strB_get key e b k j hj
    · rw [List.getElem?_append_right (by omega), hl, ← List.getD_eq_getElem?_getD, show j / 16 = k by omega, show j % 16 = j - 16 * k by omega]
theorem call_Enc (c x : Value) (w : World) : Sem.run Try.prog (callFunc 54 #[c, x]) w = .ok (.enter 54 #[c, x]) w := by
  go_simp
set_option maxRecDepth 100000 in
set_option maxHeartbeats 4000000 in
theorem stream_c {c bx g n0 cp : Nat} {key : List Nat} (hkl : key.length = 16 ∨ key.length = 32) (e b n : Nat) (he : e < 18446744073709551616) (hb : b < 4294967296) (h1 : 1 ≤ n) (hn : n ≤ 65536) (w : World) (hC : Cip w c bx g n0 cp (roundsK key) (wordsK key)) :
    Calls Try.prog 40 #[.pointer (some ⟨c, 0, none⟩), .int .u64 (e : Int), .int .u32 (b : Int), .int .i64 (n : Int)] w fun r w' =>
      ∃ q, r = .returned (.slice (some ⟨q, 0, none⟩) n n) ∧ w.heap.size ≤ q ∧ q < w'.heap.size ∧ (∀ j, j < n → w'.cell? ⟨q, j, none⟩ = some (.int .u8 (((encK key (ctrB e b (j / 16))).getD (j % 16) 0 : Nat) : Int))) ∧ Below w.heap.size w w' := by
  obtain ⟨i0, hi, hz0, hz1, hz2⟩ := info_parts u8info
  have HC := Lib.hid hC
  have HK := Lib.hid hkl
  have hBB := fun (l : Nat) (hl : l < 65536) (w : World) => counter_c e b l he hb hl w
  have HBB := Lib.hid hBB
  clear hC hkl he hb hBB
  have d1 : decide ((n : Int) < 1) = false := by simp; omega
  have d2 : decide ((n : Int) > 65536) = false := by simp; omega
  go_enter Try.func40, Try.ntmps40
  go_wp2
  go_loopw [10, 11] (fun vs vi wr => ∃ k : Nat, 16 * k < n + 16 ∧ vi = .int .i64 (k : Int) ∧ Hid (wr.ownsRow w.heap.size 5 1 vs (16 * k) (bA (strB key e b k)).toList) ∧ Hid (Below w.heap.size w wr)) (fun _ vi _ => n + 16 - 16 * (intOf vi).toNat)
  case atStart => exact ⟨0, by omega, rfl, ⟨rfl, .inl ⟨rfl, rfl⟩⟩, Below.refl _ _⟩
  case round =>
    obtain ⟨k, hk, rfl, hown, hbel⟩ := hrel
    have hlen : ∀ w' : World, True := fun _ => trivial
    clear hlen
    have hv : ∃ s cap, u10 = .slice s (16 * k) cap ∧ (k = 0 ∨ 16 * k ≤ cap) := by
      rcases hown.out.2 with ⟨rfl, h⟩ | ⟨g', cap', cur, h, e2, e3, e4, e5, e6, e7⟩
      · exact ⟨none, 0, by rw [h], .inl (by omega)⟩
      · exact ⟨_, cap', h, .inr e4⟩
    obtain ⟨sa, capo, rfl, hcap⟩ := hv
    obtain ⟨m, hm⟩ : ∃ m, m = 16 * k := ⟨_, rfl⟩
    have HM := Lib.hid hm
    rw [← hm] at hown hcap ⊢
    clear hm
    by_cases hlt : m < n
    · have hd : decide ((m : Int) < (n : Int)) = true := by simp; omega
      have hk16 : k < 65536 := by have := HM.out; omega
      have hw16 : IntKind.u16.wrap (k : Int) = (k : Int) := by rw [IntKind.wrap_u16]; omega
      have HHK := Lib.hid hk16
      clear hk16
      go_wp2_with fail
      refine (HBB.out k HHK.out wr).mono ?_
      rintro r w1 ⟨rfl, hb1⟩
      have HB1 : Hid (Below w.heap.size w w1) := hbel.out.trans (hb1.mono hbel.out.size)
      have HOW1 : Hid (w1.ownsRow w.heap.size 5 1 (.slice sa m capo) m (bA (strB key e b k)).toList) := own_keep hown.out (fun q hq hq2 => hb1.block q hq2)
      clear hb1
      go_wp2_with fail
      refine (enc_c HK.out (ctrB_by e b k) w1 (HC.out.up HB1.out (Nat.le_refl _))).mono ?_
      rintro r w2 ⟨rfl, hb2⟩
      have HB2 : Hid (Below w.heap.size w w2) := HB1.out.trans (hb2.mono HB1.out.size)
      have HOW2 : Hid (w2.ownsRow w.heap.size 5 1 (.slice sa m capo) m (bA (strB key e b k)).toList) := own_keep HOW1.out (fun q hq hq2 => hb2.block q hq2)
      have HEL := Lib.hid (encK_len key (ctrB e b k))
      obtain ⟨X, hX⟩ : ∃ X, X = encK key (ctrB e b k) := ⟨_, rfl⟩
      have HX := Lib.hid hX
      rw [← hX] at HEL ⊢
      clear hb2 hX HOW1 HB1
      go_wp2_with (first
        | (refine wpList_store_row rfl 88 (.tmp 12) (.tmp 33) rfl w2.heap.size _ rfl rfl 88 _ (heap_new' _ _) (by rw [zero16', bA_size, HEL.out]) (by rw [bA_size, HEL.out]; rfl) (bA_one _) ?_; generalize hW5 : World.setRow _ _ _ = W5; have HH5 : Hid (W5.heap[w2.heap.size]? = some (.cells (bA X) 88 (0, 0))) := (by rw [← hW5]; exact setRow_heap _ _ _ _ _ _ (heap_new' w2 _)); have HB5 : Hid (Below w2.heap.size w2 W5) := (by rw [← hW5]; exact below_setRow ((Below.refl _ _).alloc (Nat.le_refl _) _) (Nat.le_refl _) _); clear hW5; have HS5 : Hid (w2.heap.size < W5.heap.size) := lt_of_block HH5.out; have HOW5 : Hid (W5.ownsRow w.heap.size 5 1 (.slice sa m capo) m (bA (strB key e b k)).toList) := own_keep HOW2.out (fun q hq hq2 => HB5.out.block q hq2))
        | (refine wpList_append_lies _ rfl (.tmp 34) (.tmp 35) 32 rfl w.heap.size 5 i0 _ 1 1 Try.underlying32 hi hz0 hz1 hz2 rfl (by omega) (.slice sa m capo) m _ rfl HOW5.out ⟨w2.heap.size, 0, none⟩ 16 16 (bA X).toList rfl (by simp [bA_size, HEL.out]) (World.news_of_block HH5.out) (by simp [bA, Value.oneCell']) (by omega) (by unfold maxLen; omega) (by omega) (by have := HB5.out.size; have := HB2.out.size; omega) _ rfl ?_; intro g5 cap5 w6 hown6 hgrow hat hlt6)
        | fail)
      go_roundw
      case rel =>
        refine ⟨k + 1, by have := HM.out; omega, by go_num, ?_, ?_⟩
        · have e : (bA (strB key e b (k + 1))).toList = (bA (strB key e b k)).toList ++ (bA X).toList := by rw [strB, HX.out]; simp [bA]
          rw [e, show 16 * (k + 1) = m + 16 by have := HM.out; omega]; exact hown6
        · exact (HB2.out.trans (HB5.out.mono HB2.out.size)).grown hgrow (by have := HB2.out.size; have := HB5.out.size; omega) (fun q e => by have := own_ge HOW5.out q e; omega)
      case measure => simp [intOf]; have := HM.out; omega
    · have hd : decide ((m : Int) < (n : Int)) = false := by simp; omega
      rcases hown.out.2 with ⟨h, h'⟩ | ⟨g', cap', cur, h, e2, e3, e4, e5, e6, e7⟩
      · omega
      · cases h
        have hs1 : (n : Int) ≤ (capo : Int) := by omega
        have HE3 := Lib.hid e3
        have HE7 := Lib.hid e7
        have HE2 := Lib.hid e2
        clear e2 e3 e5 e6 e7 hi hz0 hz1 hz2
        go_wp2
        go_ret
        refine ⟨g', rfl, HE2.out, lt_of_block HE3.out, fun j hj => ?_, hbel.out⟩
        rw [cells_at HE3.out j]
        have := congrArg (fun l => l[j]?) HE7.out
        simp only [Nat.mul_one] at this
        rw [List.getElem?_take_of_lt (by omega), Array.getElem?_toList, Array.getElem?_toList, bA_get _ j (by rw [strB_len]; have := HM.out; omega), strB_get _ _ _ _ _ (by have := HM.out; omega)] at this
        exact this
end Go.Proofs.Ytjclofkkpgdjnaa
