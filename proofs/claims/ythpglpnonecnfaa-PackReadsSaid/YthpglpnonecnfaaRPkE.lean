/- The reference's Parse. Printed by gen_rparse.py. -/
import Derived.Test.YthpglpnonecnfaaRPkD
import Derived.Test.YthpglpnonecnfaaPkSame
import Derived.Test.YthpglpnonecnfaaPkBit
set_option linter.unusedVariables false
set_option linter.unusedSimpArgs false
namespace Go.Proofs.Ythpglpnonecnfaa
open Go Go.RowKit Sha
/-- what the reference's Parse answers -/
def RParse (w' : World) (e : Ending) (b : List Nat) : Prop :=
  (e = .returned (.tuple #[.agg #[.slice none 0 0, .int .i64 0, .int .i64 0, .int .i64 0, .int .i64 0, .int .i64 0, .int .i64 0, .int .i64 0, .int .i64 0, .int .i64 0, .int .i64 0, .int .i64 0, .int .i64 0, .int .i64 0, .int .i64 0, .int .i64 0, .int .i64 0], .bool false]) ∧ ∀ L R, ¬ Pk b L R) ∨
  (∃ L R a c n, Pk b L R ∧ L.length = n ∧ e = .returned (.tuple #[.agg (packA (.slice a n c) R), .bool true]) ∧ RowsAt w' a L)
theorem slAt_sub {w : World} {g o cap : Nat} {l : List Nat} (h : BytesAt w (some ⟨g, o, none⟩) cap l) {lo hi m : Nat} (hl : lo ≤ hi) (hh : hi ≤ l.length) (hc : l.length ≤ cap) (hm : cap ≤ maxLen) (he : hi - lo = m) :
    SlAt w (.slice (some ⟨g, subO o cap lo, none⟩) m (cap - lo)) ((l.drop lo).take m) := by
  subst he
  have hn : ((l.drop lo).take (hi - lo)).length = hi - lo := by rw [List.length_take, List.length_drop]; omega
  exact ⟨_, cap - lo, by rw [hn], h.sub hl hh, (fun h => by cases h), by rw [hn]; omega, by unfold maxLen at *; omega⟩
theorem range_row {w : World} {g : Nat} {A : Array Value} {t : TypeId} (h : w.heap[g]? = some (.cells A t (0, 0))) : w.rangeAt g 0 A.toList := by
  intro j u hu
  rw [cells_at h (0 + j), Nat.zero_add, ← hu, Array.getElem?_toList]
set_option maxRecDepth 100000 in
set_option maxHeartbeats 8000000 in
theorem rparse_c (a : Option Addr) (nb cap : Nat) (b : List Nat) (hnb : b.length = nb) (hlen : nb ≤ 800000) (hcap : nb ≤ cap) (hmx : cap ≤ maxLen) (w : World) (hb : BytesAt w a cap b) :
    Calls Try.prog 11 #[.slice a nb cap] w fun e w' => RParse w' e b ∧ Below w.heap.size w w' := by
  have HZ1 : Hid (((w.alloc (.cells #[.slice none 0 0, .int .i64 0, .int .i64 0, .int .i64 0, .int .i64 0, .int .i64 0, .int .i64 0, .int .i64 0, .int .i64 0, .int .i64 0, .int .i64 0, .int .i64 0, .int .i64 0, .int .i64 0, .int .i64 0, .int .i64 0, .int .i64 0] 25)).alloc (.cells #[.slice none 0 0, .int .i64 0, .int .i64 0, .int .i64 0, .int .i64 0, .int .i64 0, .int .i64 0, .int .i64 0, .int .i64 0, .int .i64 0, .int .i64 0, .int .i64 0, .int .i64 0, .int .i64 0, .int .i64 0, .int .i64 0, .int .i64 0] 25)).heap[w.heap.size]? = some (.cells #[.slice none 0 0, .int .i64 0, .int .i64 0, .int .i64 0, .int .i64 0, .int .i64 0, .int .i64 0, .int .i64 0, .int .i64 0, .int .i64 0, .int .i64 0, .int .i64 0, .int .i64 0, .int .i64 0, .int .i64 0, .int .i64 0, .int .i64 0] 25 (0, 0))) := (heap_old' _ _ _ (by simp)).trans (heap_new' _ _)
  have HP1 : Hid (((w.alloc (.cells #[.slice none 0 0, .int .i64 0, .int .i64 0, .int .i64 0, .int .i64 0, .int .i64 0, .int .i64 0, .int .i64 0, .int .i64 0, .int .i64 0, .int .i64 0, .int .i64 0, .int .i64 0, .int .i64 0, .int .i64 0, .int .i64 0, .int .i64 0] 25)).alloc (.cells #[.slice none 0 0, .int .i64 0, .int .i64 0, .int .i64 0, .int .i64 0, .int .i64 0, .int .i64 0, .int .i64 0, .int .i64 0, .int .i64 0, .int .i64 0, .int .i64 0, .int .i64 0, .int .i64 0, .int .i64 0, .int .i64 0, .int .i64 0] 25)).heap[w.heap.size + 1]? = some (.cells #[.slice none 0 0, .int .i64 0, .int .i64 0, .int .i64 0, .int .i64 0, .int .i64 0, .int .i64 0, .int .i64 0, .int .i64 0, .int .i64 0, .int .i64 0, .int .i64 0, .int .i64 0, .int .i64 0, .int .i64 0, .int .i64 0, .int .i64 0] 25 (0, 0))) := (by simp : w.heap.size + 1 = (w.alloc (.cells #[.slice none 0 0, .int .i64 0, .int .i64 0, .int .i64 0, .int .i64 0, .int .i64 0, .int .i64 0, .int .i64 0, .int .i64 0, .int .i64 0, .int .i64 0, .int .i64 0, .int .i64 0, .int .i64 0, .int .i64 0, .int .i64 0, .int .i64 0] 25)).heap.size) ▸ heap_new' _ _
  have HE1 : Hid (Below w.heap.size w ((w.alloc (.cells #[.slice none 0 0, .int .i64 0, .int .i64 0, .int .i64 0, .int .i64 0, .int .i64 0, .int .i64 0, .int .i64 0, .int .i64 0, .int .i64 0, .int .i64 0, .int .i64 0, .int .i64 0, .int .i64 0, .int .i64 0, .int .i64 0, .int .i64 0] 25)).alloc (.cells #[.slice none 0 0, .int .i64 0, .int .i64 0, .int .i64 0, .int .i64 0, .int .i64 0, .int .i64 0, .int .i64 0, .int .i64 0, .int .i64 0, .int .i64 0, .int .i64 0, .int .i64 0, .int .i64 0, .int .i64 0, .int .i64 0, .int .i64 0] 25))) := ((Below.refl _ _).alloc (Nat.le_refl _) _).alloc (by simp) _
  have HNB := Lib.hid hnb
  have HLEN := Lib.hid hlen
  have HCAP := Lib.hid hcap
  have HMX := Lib.hid hmx
  have HB := Lib.hid hb
  clear hnb hlen hcap hmx hb
  go_enter Try.func11, Try.ntmps11
  have HS0 : Hid ((w.alloc (.cells #[.slice none 0 0, .int .i64 0, .int .i64 0, .int .i64 0, .int .i64 0, .int .i64 0, .int .i64 0, .int .i64 0, .int .i64 0, .int .i64 0, .int .i64 0, .int .i64 0, .int .i64 0, .int .i64 0, .int .i64 0, .int .i64 0, .int .i64 0] 25)).heap.size = w.heap.size + 1) := by show _ = _; simp
  by_cases h70 : nb < 70
  · have d70 : decide ((nb : Int) < 70) = true := by simp; omega
    have HNP : Hid (∀ L R, ¬ Pk b L R) := fun L R h => by have := pk_len h; have := HNB.out; omega
    clear h70
    go_wp2_with (first
      | (refine wpList_store_row rfl 25 (.tmp 4) (.tmp 10) rfl (w.heap.size + 1) #[.slice none 0 0, .int .i64 0, .int .i64 0, .int .i64 0, .int .i64 0, .int .i64 0, .int .i64 0, .int .i64 0, .int .i64 0, .int .i64 0, .int .i64 0, .int .i64 0, .int .i64 0, .int .i64 0, .int .i64 0, .int .i64 0, .int .i64 0] rfl rfl 25 _ HP1.out (by rw [pack25]; rfl) (by rfl) zp_one ?_; generalize hW2 : World.setRow _ _ _ = w2; have HP2 : Hid (w2.heap[w.heap.size + 1]? = some (.cells #[.slice none 0 0, .int .i64 0, .int .i64 0, .int .i64 0, .int .i64 0, .int .i64 0, .int .i64 0, .int .i64 0, .int .i64 0, .int .i64 0, .int .i64 0, .int .i64 0, .int .i64 0, .int .i64 0, .int .i64 0, .int .i64 0, .int .i64 0] 25 (0, 0))) := (by rw [← hW2]; exact setRow_heap _ _ _ _ _ _ HP1.out); have HZ2 : Hid (w2.heap[w.heap.size]? = some (.cells #[.slice none 0 0, .int .i64 0, .int .i64 0, .int .i64 0, .int .i64 0, .int .i64 0, .int .i64 0, .int .i64 0, .int .i64 0, .int .i64 0, .int .i64 0, .int .i64 0, .int .i64 0, .int .i64 0, .int .i64 0, .int .i64 0, .int .i64 0] 25 (0, 0))) := (by rw [← hW2]; exact (setRow_other _ _ _ _ (by omega)).trans HZ1.out); have HE2 : Hid (Below w.heap.size w w2) := (by rw [← hW2]; exact below_setRow HE1.out (by omega) _); clear hW2)
      | (refine wpList_load_row rfl 25 (.tmp 4) rfl (w.heap.size + 1) rfl _ _ _ _ HP2.out Try.underlying25 rfl (by rw [pack25]; rfl) ?_)
      | (refine wpList_store_row rfl 25 (.tmp 2) (.tmp 14) rfl w.heap.size #[.slice none 0 0, .int .i64 0, .int .i64 0, .int .i64 0, .int .i64 0, .int .i64 0, .int .i64 0, .int .i64 0, .int .i64 0, .int .i64 0, .int .i64 0, .int .i64 0, .int .i64 0, .int .i64 0, .int .i64 0, .int .i64 0, .int .i64 0] rfl rfl 25 _ HZ2.out (by rw [pack25]; rfl) (by rfl) zp_one ?_)
      | fail)
    refine bodyPost_ret (results_row_tmp rfl _ _ w.heap.size 25 #[.slice none 0 0, .int .i64 0, .int .i64 0, .int .i64 0, .int .i64 0, .int .i64 0, .int .i64 0, .int .i64 0, .int .i64 0, .int .i64 0, .int .i64 0, .int .i64 0, .int .i64 0, .int .i64 0, .int .i64 0, .int .i64 0, .int .i64 0] (0, 0) _ rfl (setRow_heap _ _ _ _ _ _ HZ2.out) Try.underlying25 rfl (by rw [pack25]; rfl)) rfl ?_
    exact ⟨.inl ⟨rfl, HNP.out⟩, below_setRow HE2.out (Nat.le_refl _) _⟩
  · have d70 : decide ((nb : Int) < 70) = false := by simp; omega
    have H70 : Hid (70 ≤ nb) := by show _ ≤ _; omega
    obtain ⟨g, o, ha, _⟩ := HB.out.2 (by have := HNB.out; omega)
    subst ha
    obtain ⟨n, hn⟩ : ∃ n, n = le2 b 4 := ⟨_, rfl⟩
    have HN : Hid (n = le2 b 4 ∧ n ≤ 65535) := ⟨hn, by rw [hn]; exact le2_lt b 4 HB.out.1⟩
    have hln : leN ((b.drop 4).take (6 - 4)) = n := hn.symm
    have HLN := Lib.hid hln
    have ei : IntKind.i64.wrap (n : Int) = (n : Int) := by have := HN.out.2; exact IntWalk.i64_in _ (by omega)
    obtain ⟨R, hR⟩ : ∃ R, R = rootsB b := ⟨_, rfl⟩
    have HRR := Lib.hid hR
    have H16 : Hid (R.length = 16) := by show _ = _; rw [hR]; exact rootsB_len b
    have HRG : Hid (∀ k, k < 16 → R.getD k 0 = (le2 b (6 + 2 * k) : Int)) := fun k hk => by rw [hR]; exact rootsB_get b k hk
    clear h70 hn hln hR
    go_wp2_with (first
      | (refine wpList_store_row rfl 25 (.tmp 4) (.tmp 10) rfl (w.heap.size + 1) #[.slice none 0 0, .int .i64 0, .int .i64 0, .int .i64 0, .int .i64 0, .int .i64 0, .int .i64 0, .int .i64 0, .int .i64 0, .int .i64 0, .int .i64 0, .int .i64 0, .int .i64 0, .int .i64 0, .int .i64 0, .int .i64 0, .int .i64 0] rfl rfl 25 _ HP1.out (by rw [pack25]; rfl) (by rfl) zp_one ?_; generalize hW2 : World.setRow _ _ _ = w2; have HP2 : Hid (w2.heap[w.heap.size + 1]? = some (.cells (packA (.slice none 0 0) (partR R 0)) 25 (0, 0))) := (by rw [← hW2]; exact setRow_heap _ _ _ _ _ _ HP1.out); have HZ2 : Hid (w2.heap[w.heap.size]? = some (.cells #[.slice none 0 0, .int .i64 0, .int .i64 0, .int .i64 0, .int .i64 0, .int .i64 0, .int .i64 0, .int .i64 0, .int .i64 0, .int .i64 0, .int .i64 0, .int .i64 0, .int .i64 0, .int .i64 0, .int .i64 0, .int .i64 0, .int .i64 0] 25 (0, 0))) := (by rw [← hW2]; exact (setRow_other _ _ _ _ (by omega)).trans HZ1.out); have HE2 : Hid (Below w.heap.size w w2) := (by rw [← hW2]; exact below_setRow HE1.out (by omega) _); clear hW2)
      | (refine wpList_sub rfl (.tmp 15) (.const (.int .i64 4)) (.const (.int .i64 6)) (l := 4) (h := 6) rfl rfl rfl rfl (by omega) (by have := HCAP.out; have := H70.out; omega) ?_)
      | fail)
    refine (rget2_c (6 - 4) rfl _ (cap - 4) ((b.drop 4).take (6 - 4)) (by rw [List.length_take, List.length_drop]; have := H70.out; have := HNB.out; omega) w2 ((HB.out.up HE2.out (Nat.le_refl _)).sub (by omega) (by have := H70.out; have := HNB.out; omega))).mono ?_
    rintro e w3 ⟨rfl, rfl⟩
    rw [HLN.out]
    have HPB : Hid (w.heap.size + 1 = w.heap.size + 1) := rfl
    clear HZ1 HP1 HE1 HS0
    go_wp2
    obtain ⟨pb, hpb⟩ : ∃ pb, pb = w.heap.size + 1 := ⟨_, rfl⟩
    rw [← hpb] at HP2 ⊢
    have HPB : Hid (pb = w.heap.size + 1) := hpb
    clear hpb
    go_loopw [19] (fun vi wr => ∃ k : Nat, k ≤ 16 ∧ vi = .int .i64 (k : Int) ∧ Hid (wr.heap[pb]? = some (.cells (packA (.slice none 0 0) (partR R k)) 25 (0, 0))) ∧ Hid (wr.heap[w.heap.size]? = some (.cells #[.slice none 0 0, .int .i64 0, .int .i64 0, .int .i64 0, .int .i64 0, .int .i64 0, .int .i64 0, .int .i64 0, .int .i64 0, .int .i64 0, .int .i64 0, .int .i64 0, .int .i64 0, .int .i64 0, .int .i64 0, .int .i64 0, .int .i64 0] 25 (0, 0))) ∧ Hid (Below w.heap.size w wr)) (fun vi _ => 16 - (intOf vi).toNat)
    case atStart => exact ⟨0, by omega, rfl, HP2.out, HZ2.out, HE2.out⟩
    case round =>
      clear HP2 HZ2 HE2
      obtain ⟨k, hk, rfl, hp, hz, hbel⟩ := hrel
      by_cases hlt : k < 16
      · have hd : decide ((k : Int) < 16) = true := by simp; omega
        have dl : (k : Int) < 16 := by omega
        have dk0 : ¬ (k : Int) < 0 := by omega
        have HK := Lib.hid hlt
        obtain ⟨k2, hk2⟩ : ∃ k2, k2 = 2 * k := ⟨_, rfl⟩
        obtain ⟨j, hj⟩ : ∃ j, j = 6 + k2 := ⟨_, rfl⟩
        obtain ⟨j2, hj2⟩ : ∃ j2, j2 = 8 + k2 := ⟨_, rfl⟩
        have e1 : IntKind.i64.wrap (2 * (k : Int)) = (k2 : Int) := by rw [IntWalk.i64_in _ (by omega)]; omega
        have e2 : IntKind.i64.wrap (6 + (k2 : Int)) = (j : Int) := by rw [IntWalk.i64_in _ (by omega)]; omega
        have e3 : IntKind.i64.wrap (8 + (k2 : Int)) = (j2 : Int) := by rw [IntWalk.i64_in _ (by omega)]; omega
        have HJ : Hid (j = 6 + 2 * k ∧ j2 = j + 2) := ⟨by omega, by omega⟩
        obtain ⟨q, hq⟩ : ∃ q, q = le2 b j := ⟨_, rfl⟩
        have HQ : Hid (q ≤ 65535 ∧ R.getD k 0 = (q : Int)) := ⟨by rw [hq]; exact le2_lt b j HB.out.1, by rw [HRG.out k hlt, hq, HJ.out.1]⟩
        have HQQ : Hid (leN ((b.drop j).take (j2 - j)) = q) := by show _ = _; rw [show j2 - j = 2 by omega, hq]; rfl
        have eq1 : IntKind.i64.wrap (q : Int) = (q : Int) := by have := HQ.out.1; exact IntWalk.i64_in _ (by omega)
        clear hq hj hj2 hk2 hlt
        go_wp2_with (first
          | (refine wpList_sub rfl (.tmp 23) (.tmp 26) (.tmp 29) (l := j) (h := j2) rfl rfl rfl rfl (by have := HJ.out; omega) (by have := HCAP.out; have := H70.out; have := HJ.out; have := HK.out; omega) ?_)
          | fail)
        refine (rget2_c (j2 - j) (by have := HJ.out; omega) _ (cap - j) ((b.drop j).take (j2 - j)) (by rw [List.length_take, List.length_drop]; have := H70.out; have := HNB.out; have := HJ.out; have := HK.out; omega) wr ((HB.out.up hbel.out (Nat.le_refl _)).sub (by have := HJ.out; omega) (by have := H70.out; have := HNB.out; have := HJ.out; have := HK.out; omega))).mono ?_
        rintro e w5 ⟨rfl, rfl⟩
        rw [HQQ.out]
        have f5 := free_at hp.out (1 + k)
        have c5 := (cells_at hp.out (1 + k)).trans (packA_get _ _ k (by rw [partR_len R H16.out k hk]; have := HK.out; omega))
        have nbk := block_at hp.out (1 + k) (.int .i64 (R.getD k 0))
        rw [partR_set _ R H16.out k HK.out, HQ.out.2] at nbk
        have HN1 := Lib.hid nbk
        have HN3 := Lib.hid ((Below.heap_setCell wr ⟨pb, 1 + k, none⟩ (.int .i64 (q : Int)) w.heap.size (by have := HPB.out; show w.heap.size ≠ pb; omega)).trans hz.out)
        have HN4 : Hid (Below w.heap.size w (wr.setCell ⟨pb, 1 + k, none⟩ (.int .i64 (q : Int)))) := hbel.out.setCell (p := ⟨pb, 1 + k, none⟩) (by have := HPB.out; show w.heap.size ≤ pb; omega) _
        clear nbk hp hz hbel hk
        go_wp2
        go_roundw
        case rel => exact ⟨k + 1, by have := HK.out; omega, by go_num, HN1.out, HN3.out, HN4.out⟩
        case measure => simp [intOf]; have := HK.out; omega
      · have hk16 : k = 16 := by omega
        have hd : decide ((k : Int) < 16) = false := by simp; omega
        have HP6 : Hid (wr.heap[pb]? = some (.cells (packA (.slice none 0 0) R) 25 (0, 0))) := by
          have h := hp.out; rw [hk16, partR_full R H16.out] at h; exact h
        have HZ6 := Lib.hid hz.out
        have HE6 := Lib.hid hbel.out
        clear hp hz hbel hk16 hlt hk
        go_wp2
        go_loopw [7, 8] (fun va vi wr => ∃ k at_ : Nat, k ≤ n ∧ vi = .int .i64 (k : Int) ∧ va = .int .i64 (at_ : Int) ∧ ∃ a5 c5 xs L, Hid (wr.heap[pb]? = some (.cells (packA (.slice a5 k c5) R) 25 (0, 0))) ∧ Hid (wr.ownsRow (pb + 1) 27 1 (.slice a5 k c5) k xs) ∧ Hid (RowsV w xs L) ∧ Hid (L.length = k) ∧ Hid (38 ≤ at_ ∧ at_ ≤ nb ∧ at_ = 38 + (rowsB L).length) ∧ Hid (∀ L0 R0, Pk b L0 R0 → L = L0.take k) ∧ Hid (wr.heap[w.heap.size]? = some (.cells #[.slice none 0 0, .int .i64 0, .int .i64 0, .int .i64 0, .int .i64 0, .int .i64 0, .int .i64 0, .int .i64 0, .int .i64 0, .int .i64 0, .int .i64 0, .int .i64 0, .int .i64 0, .int .i64 0, .int .i64 0, .int .i64 0, .int .i64 0] 25 (0, 0))) ∧ Hid (Below w.heap.size w wr)) (fun _ vi _ => n - (intOf vi).toNat)
        case atStart => exact ⟨0, 38, by omega, rfl, rfl, none, 0, [], [], HP6.out, World.ownsRow_nil _ _ _ _, rowsV_nil _, rfl, ⟨by omega, by have := H70.out; omega, rfl⟩, (fun L0 R0 h => by rw [List.take_zero]), HZ6.out, HE6.out⟩
        case round =>
          clear HP6 HZ6 HE6
          obtain ⟨k, at_, hk, rfl, rfl, a5, c5, xs, L, hp, hown, hrv, hLk, hat, hpk, hz, hbel⟩ := hrel
          have HKN := Lib.hid hk
          by_cases hlt : k < n
          · have hd2 : decide ((k : Int) < (n : Int)) = true := by simp; omega
            have dl2 : (k : Int) < (n : Int) := by omega
            have HK := Lib.hid hlt
            have HROW : Hid (∀ L0 R0, Pk b L0 R0 → ∃ (h : k < L0.length), at_ + 2 + L0[k].length ≤ b.length ∧ le2 b at_ = L0[k].length ∧ (b.drop (at_ + 2)).take L0[k].length = L0[k]) := fun L0 R0 h => by
              have h1 := pk_n h
              have h2 := HN.out.1
              have h3 : k < L0.length := by have := HK.out; omega
              exact ⟨h3, pk_row h k h3 at_ (by rw [← hpk.out L0 R0 h]; exact hat.out.2.2)⟩
            have ek : IntKind.i64.wrap ((k : Int) + 1) = (k : Int) + 1 := by have h1 := HK.out; have h2 := HN.out.2; exact IntWalk.i64_in _ (by omega)
            obtain ⟨left, hleft⟩ : ∃ left, left = nb - at_ := ⟨_, rfl⟩
            have el : IntKind.i64.wrap ((nb : Int) - (at_ : Int)) = (left : Int) := by have h1 := hat.out; have h2 := HLEN.out; rw [IntWalk.i64_in _ (by omega)]; omega
            have HLEFT : Hid (left = nb - at_) := hleft
            by_cases h2 : left < 2
            · have d2 : decide ((left : Int) < 2) = true := by simp; omega
              have HNOT : Hid (∀ L0 R0, ¬ Pk b L0 R0) := fun L0 R0 h => by obtain ⟨_, h3, _⟩ := HROW.out L0 R0 h; have := HNB.out; have := hat.out; omega
              clear h2 hleft hlt hk
              go_wp2_with (first
                | (refine wpList_store_row rfl 25 (.tmp 2) (.tmp 46) rfl w.heap.size #[.slice none 0 0, .int .i64 0, .int .i64 0, .int .i64 0, .int .i64 0, .int .i64 0, .int .i64 0, .int .i64 0, .int .i64 0, .int .i64 0, .int .i64 0, .int .i64 0, .int .i64 0, .int .i64 0, .int .i64 0, .int .i64 0, .int .i64 0] rfl rfl 25 _ hz.out (by rw [pack25]; rfl) (by rfl) zp_one ?_)
                | fail)
              refine bodyPost_ret (results_row_tmp rfl _ _ w.heap.size 25 #[.slice none 0 0, .int .i64 0, .int .i64 0, .int .i64 0, .int .i64 0, .int .i64 0, .int .i64 0, .int .i64 0, .int .i64 0, .int .i64 0, .int .i64 0, .int .i64 0, .int .i64 0, .int .i64 0, .int .i64 0, .int .i64 0, .int .i64 0] (0, 0) _ rfl (setRow_heap _ _ _ _ _ _ hz.out) Try.underlying25 rfl (by rw [pack25]; rfl)) rfl ?_
              exact ⟨.inl ⟨rfl, HNOT.out⟩, below_setRow hbel.out (Nat.le_refl _) _⟩
            · have d2 : decide ((left : Int) < 2) = false := by simp; omega
              obtain ⟨m, hm⟩ : ∃ m, m = le2 b at_ := ⟨_, rfl⟩
              have HM : Hid (m = le2 b at_ ∧ m ≤ 65535) := ⟨hm, by rw [hm]; exact le2_lt b at_ HB.out.1⟩
              obtain ⟨at2, hat2⟩ : ∃ x, x = at_ + 2 := ⟨_, rfl⟩
              have HMM : Hid (leN ((b.drop at_).take (at2 - at_)) = m) := by show _ = _; rw [show at2 - at_ = 2 by omega, hm]; rfl
              have e2 : IntKind.i64.wrap ((at_ : Int) + 2) = (at2 : Int) := by have h1 := hat.out; have h2 := HLEN.out; rw [IntWalk.i64_in _ (by omega)]; omega
              have em : IntKind.i64.wrap (m : Int) = (m : Int) := by have := HM.out.2; exact IntWalk.i64_in _ (by omega)
              obtain ⟨left2, hleft2⟩ : ∃ x, x = left - 2 := ⟨_, rfl⟩
              have el2 : IntKind.i64.wrap ((left : Int) - 2) = (left2 : Int) := by have h2 := HLEN.out; rw [IntWalk.i64_in _ (by omega)]; omega
              have HA2 : Hid (at2 = at_ + 2 ∧ at2 ≤ nb ∧ left2 = nb - at2) := ⟨hat2, by have := hat.out; omega, by have := hat.out; omega⟩
              clear hm hat2 hleft2 h2 hleft hlt hk
              by_cases h3 : left2 < m
              · have d3 : decide ((left2 : Int) < (m : Int)) = true := by simp; omega
                have HNOT : Hid (∀ L0 R0, ¬ Pk b L0 R0) := fun L0 R0 h => by obtain ⟨_, h4, h5, _⟩ := HROW.out L0 R0 h; have := HNB.out; have := HM.out; have := HA2.out; omega
                have h3i : (left2 : Int) < (m : Int) := by omega
                go_wp2_with (first
                  | (refine wpList_sub rfl (.tmp 47) (.tmp 48) (.tmp 50) (l := at_) (h := at2) rfl rfl rfl rfl (by have := HA2.out; omega) (by have := HCAP.out; have := HA2.out; omega) ?_)
                  | fail)
                refine (rget2_c (at2 - at_) (by have := HA2.out; omega) _ (cap - at_) ((b.drop at_).take (at2 - at_)) (by rw [List.length_take, List.length_drop]; have := HNB.out; have := HA2.out; omega) wr ((HB.out.up hbel.out (Nat.le_refl _)).sub (by have := HA2.out; omega) (by have := HNB.out; have := HA2.out; omega))).mono ?_
                rintro e w5 ⟨rfl, rfl⟩
                rw [HMM.out]
                go_wp2_with (first
                  | (refine wpList_store_row rfl 25 (.tmp 2) (.tmp 61) rfl w.heap.size #[.slice none 0 0, .int .i64 0, .int .i64 0, .int .i64 0, .int .i64 0, .int .i64 0, .int .i64 0, .int .i64 0, .int .i64 0, .int .i64 0, .int .i64 0, .int .i64 0, .int .i64 0, .int .i64 0, .int .i64 0, .int .i64 0, .int .i64 0] rfl rfl 25 _ hz.out (by rw [pack25]; rfl) (by rfl) zp_one ?_)
                  | fail)
                refine bodyPost_ret (results_row_tmp rfl _ _ w.heap.size 25 #[.slice none 0 0, .int .i64 0, .int .i64 0, .int .i64 0, .int .i64 0, .int .i64 0, .int .i64 0, .int .i64 0, .int .i64 0, .int .i64 0, .int .i64 0, .int .i64 0, .int .i64 0, .int .i64 0, .int .i64 0, .int .i64 0, .int .i64 0] (0, 0) _ rfl (setRow_heap _ _ _ _ _ _ hz.out) Try.underlying25 rfl (by rw [pack25]; rfl)) rfl ?_
                exact ⟨.inl ⟨rfl, HNOT.out⟩, below_setRow hbel.out (Nat.le_refl _) _⟩
              · have d3 : decide ((left2 : Int) < (m : Int)) = false := by simp; omega
                obtain ⟨at3, hat3⟩ : ∃ x, x = at2 + m := ⟨_, rfl⟩
                have e3 : IntKind.i64.wrap ((at2 : Int) + (m : Int)) = (at3 : Int) := by have h1 := HA2.out; have h2 := HLEN.out; have h4 := HM.out.2; rw [IntWalk.i64_in _ (by omega)]; omega
                have HA3 : Hid (at3 = at2 + m ∧ at3 ≤ nb) := ⟨hat3, by have := HA2.out; omega⟩
                obtain ⟨x, hx⟩ : ∃ x, x = (b.drop at2).take m := ⟨_, rfl⟩
                have HX : Hid (x = (b.drop at2).take m ∧ x.length = m) := ⟨hx, by rw [hx, List.length_take, List.length_drop]; have := HNB.out; have := HA3.out; omega⟩
                have HSX : Hid (SlAt w (.slice (some ⟨g, subO o cap at2, none⟩) m (cap - at2)) x) := by
                  rw [hx]
                  exact slAt_sub HB.out (hi := at3) (by have := HA3.out; omega) (by have := HA3.out; have := HNB.out; omega) (by have := HNB.out; have := HCAP.out; omega) HMX.out (by have := HA3.out; omega)
                have HPK2 : Hid (∀ L0 R0, Pk b L0 R0 → L ++ [x] = L0.take (k + 1)) := fun L0 R0 h => by
                  obtain ⟨h4, h5, h6, h7⟩ := HROW.out L0 R0 h
                  rw [List.take_succ_eq_append_getElem h4, ← hpk.out L0 R0 h, HX.out.1, HM.out.1, HA2.out.1, h6, h7]
                have HRV2 := Lib.hid (hrv.out.snoc HSX.out)
                have HAT2 : Hid (38 ≤ at3 ∧ at3 ≤ nb ∧ at3 = 38 + (rowsB (L ++ [x])).length) := by
                  refine ⟨by have := hat.out; have := HA2.out; have := HA3.out; omega, HA3.out.2, ?_⟩
                  unfold rowsB
                  rw [List.flatMap_append, List.length_append]
                  have h4 := hat.out.2.2
                  unfold rowsB at h4
                  simp only [List.flatMap_cons, List.flatMap_nil, List.append_nil, List.length_append, lowB_len]
                  have := HA2.out; have := HA3.out; have := HX.out; omega
                have h3i : ¬ (left2 : Int) < (m : Int) := by omega
                clear hat3 hx
                go_wp2_with (first
                  | (refine wpList_sub rfl (.tmp 47) (.tmp 48) (.tmp 50) (l := at_) (h := at2) rfl rfl rfl rfl (by have := HA2.out; omega) (by have := HCAP.out; have := HA2.out; omega) ?_)
                  | fail)
                refine (rget2_c (at2 - at_) (by have := HA2.out; omega) _ (cap - at_) ((b.drop at_).take (at2 - at_)) (by rw [List.length_take, List.length_drop]; have := HNB.out; have := HA2.out; omega) wr ((HB.out.up hbel.out (Nat.le_refl _)).sub (by have := HA2.out; omega) (by have := HNB.out; have := HA2.out; omega))).mono ?_
                rintro e w5 ⟨rfl, rfl⟩
                rw [HMM.out]
                go_wp2_with fail
                have hS : wr.drew.cell? ⟨pb, 0, none⟩ = some (.slice a5 k c5) := (cells_at (w := wr.drew) hp.out 0).trans rfl
                refine wp_region_T (S := fun w' => w'.cell? ⟨pb, 0, none⟩ = some (.slice a5 k c5)) (z := 13) (by kernel_rfl) ?_
                change wpAnyT _ _ _ _ _ _ 14 #[false, false, false, false, false, false, false, false, false, false, false, false, false, false] _ _
                refine wpAnyT_take (i := 0) (v := ?_) rfl (by kernel_rfl) (by kernel_rfl) (by kernel_rfl) (by kernel_rfl) (fun _ _ _ h => h) (Or.inl ⟨by rfl, ?hy⟩) hS ?_
                case hy => intro w' hSw; go_simp; try with_reducible rfl
                simp only [List.getElem_toArray, List.getElem_cons_succ, List.getElem_cons_zero, Act.put, List.setIfInBounds_toArray, List.set_cons_zero, List.set_cons_succ]
                change wpAnyT _ _ _ _ _ _ 13 #[true, false, false, false, false, false, false, false, false, false, false, false, false, false] _ _
                refine wpAnyT_take (i := 1) (v := ?_) rfl (by kernel_rfl) (by kernel_rfl) (by kernel_rfl) (by kernel_rfl) (fun _ _ _ h => h) (Or.inl ⟨by rfl, ?hy⟩) hS ?_
                case hy => intro w' hSw; have hc1 : w'.cell? ⟨pb, 0, none⟩ = some (.slice a5 k c5) := hSw; go_simp; try with_reducible rfl
                simp only [List.getElem_toArray, List.getElem_cons_succ, List.getElem_cons_zero, Act.put, List.setIfInBounds_toArray, List.set_cons_zero, List.set_cons_succ]
                change wpAnyT _ _ _ _ _ _ 12 #[true, true, false, false, false, false, false, false, false, false, false, false, false, false] _ _
                refine wpAnyT_take (i := 2) (v := ?_) rfl (by kernel_rfl) (by kernel_rfl) (by kernel_rfl) (by kernel_rfl) (fun _ _ _ h => h) (Or.inl ⟨by rfl, ?hy⟩) hS ?_
                case hy => intro w' hSw; go_simp; try with_reducible rfl
                simp only [List.getElem_toArray, List.getElem_cons_succ, List.getElem_cons_zero, Act.put, List.setIfInBounds_toArray, List.set_cons_zero, List.set_cons_succ]
                change wpAnyT _ _ _ _ _ _ 11 #[true, true, true, false, false, false, false, false, false, false, false, false, false, false] _ _
                refine wpAnyT_take (i := 3) (v := ?_) rfl (by kernel_rfl) (by kernel_rfl) (by kernel_rfl) (by kernel_rfl) (fun _ _ _ h => h) (Or.inl ⟨by rfl, ?hy⟩) hS ?_
                case hy => intro w' hSw; go_simp; try with_reducible rfl
                simp only [List.getElem_toArray, List.getElem_cons_succ, List.getElem_cons_zero, Act.put, List.setIfInBounds_toArray, List.set_cons_zero, List.set_cons_succ]
                change wpAnyT _ _ _ _ _ _ 10 #[true, true, true, true, false, false, false, false, false, false, false, false, false, false] _ _
                refine wpAnyT_take (i := 4) (v := ?_) rfl (by kernel_rfl) (by kernel_rfl) (by kernel_rfl) (by kernel_rfl) (fun _ _ _ h => h) (Or.inl ⟨by rfl, ?hy⟩) hS ?_
                case hy => intro w' hSw; go_simp; try with_reducible rfl
                simp only [List.getElem_toArray, List.getElem_cons_succ, List.getElem_cons_zero, Act.put, List.setIfInBounds_toArray, List.set_cons_zero, List.set_cons_succ]
                change wpAnyT _ _ _ _ _ _ 9 #[true, true, true, true, true, false, false, false, false, false, false, false, false, false] _ _
                refine wpAnyT_take (i := 5) (v := ?_) rfl (by kernel_rfl) (by kernel_rfl) (by kernel_rfl) (by kernel_rfl) (fun _ _ _ h => h) (Or.inl ⟨by rfl, ?hy⟩) hS ?_
                case hy => intro w' hSw; go_simp; try with_reducible rfl
                simp only [List.getElem_toArray, List.getElem_cons_succ, List.getElem_cons_zero, Act.put, List.setIfInBounds_toArray, List.set_cons_zero, List.set_cons_succ]
                change wpAnyT _ _ _ _ _ _ 8 #[true, true, true, true, true, true, false, false, false, false, false, false, false, false] _ _
                refine wpAnyT_take (i := 6) (v := ?_) rfl (by kernel_rfl) (by kernel_rfl) (by kernel_rfl) (by kernel_rfl) (fun _ _ _ h => h) (Or.inl ⟨by rfl, ?hy⟩) hS ?_
                case hy => intro w' hSw; go_simp; try with_reducible rfl
                simp only [List.getElem_toArray, List.getElem_cons_succ, List.getElem_cons_zero, Act.put, List.setIfInBounds_toArray, List.set_cons_zero, List.set_cons_succ]
                change wpAnyT _ _ _ _ _ _ 7 #[true, true, true, true, true, true, true, false, false, false, false, false, false, false] _ _
                refine wpAnyT_take (i := 7) (v := ?_) rfl (by kernel_rfl) (by kernel_rfl) (by kernel_rfl) (by kernel_rfl) (fun _ _ _ h => h) (Or.inl ⟨by rfl, ?hy⟩) hS ?_
                case hy => intro w' hSw; go_simp; try with_reducible rfl
                simp only [List.getElem_toArray, List.getElem_cons_succ, List.getElem_cons_zero, Act.put, List.setIfInBounds_toArray, List.set_cons_zero, List.set_cons_succ]
                change wpAnyT _ _ _ _ _ _ 6 #[true, true, true, true, true, true, true, true, false, false, false, false, false, false] _ _
                refine wpAnyT_take (i := 8) (v := ?_) rfl (by kernel_rfl) (by kernel_rfl) (by kernel_rfl) (by kernel_rfl) (fun _ _ _ h => h) (Or.inl ⟨by rfl, ?hy⟩) hS ?_
                case hy => intro w' hSw; go_simp; try with_reducible rfl
                simp only [List.getElem_toArray, List.getElem_cons_succ, List.getElem_cons_zero, Act.put, List.setIfInBounds_toArray, List.set_cons_zero, List.set_cons_succ]
                change wpAnyT _ _ _ _ _ _ 5 #[true, true, true, true, true, true, true, true, true, false, false, false, false, false] _ _
                refine wpAnyT_take (i := 9) rfl (by kernel_rfl) (by kernel_rfl) (by kernel_rfl) (by kernel_rfl) (fun _ _ _ h => h) (Or.inl ⟨by rfl, fun w' hSw => run_sub_op (l := at2) (h := at3) (by have := HA3.out; omega) (by have := HCAP.out; have := HA3.out; omega) _ (.tmp 64) (.tmp 66) (.tmp 70) _ rfl rfl rfl rfl w'⟩) hS ?_
                simp only [List.getElem_toArray, List.getElem_cons_succ, List.getElem_cons_zero, Act.put, List.setIfInBounds_toArray, List.set_cons_zero, List.set_cons_succ]
                change wpAnyT _ _ _ _ _ _ 4 #[true, true, true, true, true, true, true, true, true, true, false, false, false, false] _ _
                rw [show at3 - at2 = m by have := HA3.out; omega]
                refine wpAnyT_ready (rs := [10]) (by kernel_rfl) (by simp) ?_
                refine AllReadyT.cons rfl (fun K hK => ?_) AllReadyT.nil
                rw [if_pos (by rfl)]
                go_simp
                have hb7 : Below wr.heap.size wr (wr.drew.alloc (.cells #[.slice (some ⟨g, subO o cap at2, none⟩) m (cap - at2)] 27)) := (Below.refl _ wr).drew.alloc (Nat.le_refl _) _
                have hp7 := (hb7.block _ (lt_of_block hp.out)).trans hp.out
                have hS7 : (wr.drew.alloc (.cells #[.slice (some ⟨g, subO o cap at2, none⟩) m (cap - at2)] 27)).cell? ⟨pb, 0, none⟩ = some (.slice a5 k c5) := (cells_at hp7 0).trans rfl
                have hn7 : (wr.drew.alloc (.cells #[.slice (some ⟨g, subO o cap at2, none⟩) m (cap - at2)] 27)).heap[wr.heap.size]? = some (.cells #[.slice (some ⟨g, subO o cap at2, none⟩) m (cap - at2)] 27 (0, 0)) := heap_new' wr.drew _
                refine hK.out _ (wr.drew.alloc (.cells #[.slice (some ⟨g, subO o cap at2, none⟩) m (cap - at2)] 27)) (fun _ => hS7) ?_
                clear hK K
                simp only [List.getElem_toArray, List.getElem_cons_succ, List.getElem_cons_zero, Act.put, List.setIfInBounds_toArray, List.set_cons_zero, List.set_cons_succ]
                change wpAnyT _ _ _ _ _ _ 3 #[true, true, true, true, true, true, true, true, true, true, true, false, false, false] _ _
                generalize hw7 : wr.drew.alloc (.cells #[.slice (some ⟨g, subO o cap at2, none⟩) m (cap - at2)] 27) = w7 at *
                refine wpAnyT_ready (rs := [11]) (by kernel_rfl) (by simp) ?_
                refine AllReadyT.cons rfl (fun K hK => ?_) AllReadyT.nil
                rw [if_pos (by rfl)]
                have hro7 : w7.ownsRow (pb + 1) 27 1 (.slice a5 k c5) k xs := own_keep (w := wr) hown.out (fun g h => hb7.block g (hown.out.lt g h).2)
                refine wp_append_row (v := .slice a5 k c5) (base := pb + 1) (n := k) (xs := xs) (g := wr.heap.size) (u := .slice (some ⟨g, subO o cap at2, none⟩) m (cap - at2)) (.tmp 63) (.tmp 72) rfl rfl hro7 rfl ((cells_at hn7 0).trans rfl) rfl (by have := HN.out.2; have := HK.out; omega) (lt_of_block hp7) ?_
                intro v8 w8 hown8 hgr8
                have hp8 := (hgr8.block _ (lt_of_block hp7) (fun e => by have := (hro7.lt _ e.symm).1; omega)).trans hp7
                have hS8 : w8.cell? ⟨pb, 0, none⟩ = some (.slice a5 k c5) := (cells_at hp8 0).trans rfl
                obtain ⟨a8, c8, hv8⟩ := own_sliceR hown8
                subst hv8
                refine hK.out _ _ (fun _ => hS8) ?_
                clear hK K
                simp only [List.getElem_toArray, List.getElem_cons_succ, List.getElem_cons_zero, Act.put, List.setIfInBounds_toArray, List.set_cons_zero, List.set_cons_succ]
                change wpAnyT _ _ _ _ _ _ 2 #[true, true, true, true, true, true, true, true, true, true, true, true, false, false] _ _
                refine wpAnyT_take (i := 12) (v := ?_) rfl (by kernel_rfl) (by kernel_rfl) (by kernel_rfl) (by kernel_rfl) (fun _ _ _ h => h) (Or.inl ⟨by rfl, ?hy⟩) hS8 ?_
                case hy => intro w' hSw; go_simp; try with_reducible rfl
                simp only [List.getElem_toArray, List.getElem_cons_succ, List.getElem_cons_zero, Act.put, List.setIfInBounds_toArray, List.set_cons_zero, List.set_cons_succ]
                change wpAnyT _ _ _ _ _ _ 1 #[true, true, true, true, true, true, true, true, true, true, true, true, true, false] _ _
                refine wpAnyT_ready (rs := [13]) (by kernel_rfl) (by simp) ?_
                refine AllReadyT.cons rfl (fun K hK => ?_) AllReadyT.nil
                rw [if_pos (by rfl)]
                have f8 := free_at hp8 0
                go_simp
                refine hK.out _ (w8.setCell ⟨pb, 0, none⟩ (.slice a8 (k + 1) c8)) (fun h => absurd h (by omega)) ?_
                clear hK K
                simp only [List.getElem_toArray, List.getElem_cons_succ, List.getElem_cons_zero, Act.put, List.setIfInBounds_toArray, List.set_cons_zero, List.set_cons_succ]
                change wpAnyT _ _ _ _ _ _ 0 #[true, true, true, true, true, true, true, true, true, true, true, true, true, true] _ _
                refine wpAnyT_done (by kernel_rfl) ?_ _
                have nbk := block_at hp8 0 (.slice a8 (k + 1) c8)
                rw [pack_set0] at nbk
                have HN1 := Lib.hid nbk
                have HN2 : Hid ((w8.setCell ⟨pb, 0, none⟩ (.slice a8 (k + 1) c8)).ownsRow (pb + 1) 27 1 (.slice a8 (k + 1) c8) (k + 1) (xs ++ [.slice (some ⟨g, subO o cap at2, none⟩) m (cap - at2)])) := own_keep hown8 (fun g h => Below.heap_setCell _ _ _ _ (by have := (hown8.lt g h).1; intro e; have e2 : g = pb := e; omega))
                have hb8 : Below pb w7 w8 := (Below.refl _ _).grown hgr8 (by have := lt_of_block hp7; omega) (fun g h => by have := (hro7.lt g h).1; omega)
                have hb9 : Below pb w7 (w8.setCell ⟨pb, 0, none⟩ (.slice a8 (k + 1) c8)) := hb8.setCell (by show pb ≤ pb; omega) _
                have hb79 : Below pb wr (w8.setCell ⟨pb, 0, none⟩ (.slice a8 (k + 1) c8)) := (hb7.mono (by have := lt_of_block hp.out; omega)).trans hb9
                have HN4 := Lib.hid ((hb79.block w.heap.size (by have := HPB.out; omega)).trans hz.out)
                have HN6 : Hid (Below w.heap.size w (w8.setCell ⟨pb, 0, none⟩ (.slice a8 (k + 1) c8))) := hbel.out.trans (hb79.mono (by have := HPB.out; omega))
                have HN7 : Hid ((L ++ [x]).length = k + 1) := by show _ = _; rw [List.length_append, hLk.out]; rfl
                clear nbk hb8 hb9 hb79 hS hS7 hS8 hp7 hp8 hb7 hn7 hw7 hro7 hown8 hgr8 f8 hp hown hrv hLk hat hpk hz hbel
                go_wp2
                go_roundw
                case rel => exact ⟨k + 1, at3, by have := HK.out; omega, by go_num, rfl, a8, c8, _, _, HN1.out, HN2.out, HRV2.out, HN7.out, HAT2.out, HPK2.out, HN4.out, HN6.out⟩
                case measure => simp [intOf]; have := HK.out; omega
          · have hkn : k = n := by omega
            have hd2 : decide ((k : Int) < (n : Int)) = false := by simp; omega
            have HKE := Lib.hid hkn
            have HPR : Hid (∀ L0 R0, Pk b L0 R0 → L = L0 ∧ R = R0) := fun L0 R0 h => ⟨by rw [hpk.out L0 R0 h, List.take_of_length_le (by have := pk_n h; have := HN.out.1; have := HKE.out; omega)], by rw [HRR.out]; exact pk_roots h⟩
            have HPS : Hid ((packA (.slice a5 k c5) R).size = 17) := by show _ = _; rw [pack_size, H16.out]
            have HRX : Hid (∀ w', Below wr.heap.size wr w' → RowsAt w' a5 L) := fun w' h => (rowsAt_of (own_up hown.out h) (hrv.out.up (hbel.out.trans (h.mono hbel.out.size)) (Nat.le_refl _))).2
            have HPX : Hid (∀ w', Below wr.heap.size wr w' → w'.heap[pb]? = some (.cells (packA (.slice a5 k c5) R) 25 (0, 0))) := fun w' h => (h.block _ (lt_of_block hp.out)).trans hp.out
            have HZX : Hid (∀ w', Below wr.heap.size wr w' → w'.heap[w.heap.size]? = some (.cells #[.slice none 0 0, .int .i64 0, .int .i64 0, .int .i64 0, .int .i64 0, .int .i64 0, .int .i64 0, .int .i64 0, .int .i64 0, .int .i64 0, .int .i64 0, .int .i64 0, .int .i64 0, .int .i64 0, .int .i64 0, .int .i64 0, .int .i64 0] 25 (0, 0))) := fun w' h => (h.block _ (lt_of_block hz.out)).trans hz.out
            have HEX : Hid (∀ w', Below wr.heap.size wr w' → Below w.heap.size w w') := fun w' h => hbel.out.trans (h.mono hbel.out.size)
            have HBX : Hid (∀ w', Below wr.heap.size wr w' → BytesAt w' (some ⟨g, o, none⟩) cap b) := fun w' h => HB.out.up (hbel.out.trans (h.mono hbel.out.size)) (Nat.le_refl _)
            have HOWX : Hid (∀ w', Below wr.heap.size wr w' → w'.ownsRow (pb + 1) 27 1 (.slice a5 k c5) k xs) := fun w' h => own_up hown.out h
            have HRVX := Lib.hid hrv.out
            have HBODY : Hid ((packBody L R).length ≤ 900000) := by
              have h3 : (packBody L R).length = 6 + (numsB R).length + (rowsB L).length := by unfold packBody headB; simp [lowB_len]; omega
              have h4 := nums_len R
              have h5 := H16.out
              have h6 := hat.out
              have h7 := HLEN.out
              show _ ≤ _
              omega
            have HMAY : Hid (∀ (w' : World), Below wr.heap.size wr w' → Calls Try.prog 7 #[.agg (packA (.slice a5 k c5) R)] w' fun e w'' => e = .returned (.bool (mayP L R)) ∧ Below w'.heap.size w' w'') := fun w' h => rmay_c a5 k c5 L R hLk.out (by have := HN.out; have := HKE.out; omega) H16.out w' (HRX.out w' h)
            obtain ⟨PB, hPB⟩ : ∃ PB, PB = packBytes L R := ⟨_, rfl⟩
            have HRB : Hid (∀ (w' : World), Below wr.heap.size wr w' → Calls Try.prog 18 #[.agg (packA (.slice a5 k c5) R)] w' fun e w'' => ∃ v, e = .returned v ∧ w''.ownsRow w'.heap.size 5 1 v PB.length (bA PB).toList ∧ Below w'.heap.size w' w'') := fun w' h => by
              rw [hPB]
              exact rpbytes_c a5 k c5 L R hLk.out (by have := HN.out; have := HKE.out; omega) H16.out (fun r hr => by
                rw [HRR.out] at hr
                unfold rootsB at hr
                rw [List.mem_map] at hr
                obtain ⟨i, _, rfl⟩ := hr
                have := le2_lt b (6 + 2 * i) HB.out.1
                omega) HBODY.out w' (HRX.out w' h)
            have HPBL : Hid (∀ x ∈ PB, x < 256) := by rw [hPB]; exact packBytes_lt (rowsAt_lt (HRX.out wr (Below.refl _ _)))
            have HPBE := Lib.hid hPB
            have HLK := Lib.hid hLk.out
            have hlti : ¬ (k : Int) < (n : Int) := by omega
            clear hp hown hrv hLk hat hpk hz hbel hPB hkn hk
            go_wp2_with fail
            by_cases hmay : mayP L R = true
            · rw [hmay] at HMAY
              have HM := Lib.hid hmay
              clear hmay
              by_cases heq : PB = b
              · have HEQ := Lib.hid heq
                have deq : decide (PB = b) = true := decide_eq_true heq
                clear heq
                refine wp_region_held_drew (S := fun w' => Below wr.heap.size wr w') (by kernel_rfl) (Below.refl _ _).drew ?_
                intro hS
                generalize wr.drew = WD at hS ⊢
                change wpAnyH _ _ _ _ _ 11 #[false, false, false, false, false, false, false, false, false, false, false] _ _
                refine wpAnyH_take (i := 0) rfl (by kernel_rfl) (by kernel_rfl) (by kernel_rfl) (fun _ _ _ h => h) (yieldsIf_load_mid (by rfl) _ _ rfl pb 0 rfl (packA (.slice a5 k c5) R).toList _ (fun w' h => range_row (HPX.out w' h)) Try.underlying25 rfl (by rw [pack25, Array.length_toList, HPS.out])) hS ?_
                simp only [List.getElem_toArray, List.getElem_cons_succ, List.getElem_cons_zero, Act.put, List.setIfInBounds_toArray, List.set_cons_zero, List.set_cons_succ]
                change wpAnyH _ _ _ _ _ 10 #[true, false, false, false, false, false, false, false, false, false, false] _ _
                refine wpAnyH_ready (rs := [1]) (by kernel_rfl) (by simp) ?_
                refine AllReadyH.cons rfl (fun K hK => ?_) AllReadyH.nil
                rw [if_pos (by rfl)]
                go_simp
                refine (HMAY.out WD hS).mono ?_
                rintro e wa ⟨rfl, hb10⟩
                refine hK.out _ _ (hS.trans (hb10.mono hS.size)) (fun hSa => ?_)
                clear hK K
                simp only [List.getElem_toArray, List.getElem_cons_succ, List.getElem_cons_zero, Act.put, List.setIfInBounds_toArray, List.set_cons_zero, List.set_cons_succ]
                change wpAnyH _ _ _ _ _ 9 #[true, true, false, false, false, false, false, false, false, false, false] _ _
                clear hb10
                refine wpAnyH_take (i := 2) (v := ?_) rfl (by kernel_rfl) (by kernel_rfl) (by kernel_rfl) (fun _ _ _ h => h) (Or.inl ⟨by rfl, ?hy⟩) hSa ?_
                case hy => intro w' hSw; go_simp; try with_reducible rfl
                simp only [List.getElem_toArray, List.getElem_cons_succ, List.getElem_cons_zero, Act.put, List.setIfInBounds_toArray, List.set_cons_zero, List.set_cons_succ]
                change wpAnyH _ _ _ _ _ 8 #[true, true, true, false, false, false, false, false, false, false, false] _ _
                refine wpAnyH_take (i := 3) (v := ?_) rfl (by kernel_rfl) (by kernel_rfl) (by kernel_rfl) (fun _ _ _ h => h) (Or.inl ⟨by rfl, ?hy⟩) hSa ?_
                case hy => intro w' hSw; go_simp; try with_reducible rfl
                simp only [List.getElem_toArray, List.getElem_cons_succ, List.getElem_cons_zero, Act.put, List.setIfInBounds_toArray, List.set_cons_zero, List.set_cons_succ]
                change wpAnyH _ _ _ _ _ 7 #[true, true, true, true, false, false, false, false, false, false, false] _ _
                refine wpAnyH_take (i := 4) rfl (by kernel_rfl) (by kernel_rfl) (by kernel_rfl) (fun _ _ _ h => h) (yieldsIf_load_mid (by rfl) _ _ rfl pb 0 rfl (packA (.slice a5 k c5) R).toList _ (fun w' h => range_row (HPX.out w' h)) Try.underlying25 rfl (by rw [pack25, Array.length_toList, HPS.out])) hSa ?_
                simp only [List.getElem_toArray, List.getElem_cons_succ, List.getElem_cons_zero, Act.put, List.setIfInBounds_toArray, List.set_cons_zero, List.set_cons_succ]
                change wpAnyH _ _ _ _ _ 6 #[true, true, true, true, true, false, false, false, false, false, false] _ _
                refine wpAnyH_take (i := 7) (v := ?_) rfl (by kernel_rfl) (by kernel_rfl) (by kernel_rfl) (fun _ _ _ h => h) (Or.inl ⟨by rfl, ?hy⟩) hSa ?_
                case hy => intro w' hSw; go_simp; try with_reducible rfl
                simp only [List.getElem_toArray, List.getElem_cons_succ, List.getElem_cons_zero, Act.put, List.setIfInBounds_toArray, List.set_cons_zero, List.set_cons_succ]
                change wpAnyH _ _ _ _ _ 5 #[true, true, true, true, true, false, false, true, false, false, false] _ _
                refine wpAnyH_take (i := 8) rfl (by kernel_rfl) (by kernel_rfl) (by kernel_rfl) (fun _ _ _ h => h) (Or.inl ⟨by rfl, fun w' hSw => run_conv_op HNB.out (HBX.out w' hSw) _ (.tmp 86) _ rfl rfl⟩) hSa ?_
                simp only [List.getElem_toArray, List.getElem_cons_succ, List.getElem_cons_zero, Act.put, List.setIfInBounds_toArray, List.set_cons_zero, List.set_cons_succ]
                change wpAnyH _ _ _ _ _ 4 #[true, true, true, true, true, false, false, true, true, false, false] _ _
                refine wpAnyH_ready (rs := [5]) (by kernel_rfl) (by simp) ?_
                refine AllReadyH.cons rfl (fun K hK => ?_) AllReadyH.nil
                rw [if_pos (by rfl)]
                go_simp
                refine (HRB.out wa hSa).mono ?_
                rintro e wb ⟨v10, rfl, hown10, hb10⟩
                refine hK.out _ _ (hSa.trans (hb10.mono hSa.size)) (fun hSb => ?_)
                clear hK K
                simp only [List.getElem_toArray, List.getElem_cons_succ, List.getElem_cons_zero, Act.put, List.setIfInBounds_toArray, List.set_cons_zero, List.set_cons_succ]
                change wpAnyH _ _ _ _ _ 3 #[true, true, true, true, true, true, false, true, true, false, false] _ _
                obtain ⟨a10, c10, hv10, hbb10, -⟩ := own_bytes HPBL.out hown10
                subst hv10
                have HBB10 := Lib.hid hbb10
                clear hown10 hbb10 hb10
                refine wpAnyH_ready (rs := [6]) (by kernel_rfl) (by simp) ?_
                refine AllReadyH.cons rfl (fun K hK => ?_) AllReadyH.nil
                rw [if_pos (by rfl)]
                refine wp_conv (.tmp 84) rfl HBB10.out rfl rfl ?_
                refine hK.out _ wb (hSb) (fun hSb => ?_)
                clear hK K
                simp only [List.getElem_toArray, List.getElem_cons_succ, List.getElem_cons_zero, Act.put, List.setIfInBounds_toArray, List.set_cons_zero, List.set_cons_succ]
                change wpAnyH _ _ _ _ _ 2 #[true, true, true, true, true, true, true, true, true, false, false] _ _
                refine wpAnyH_take (i := 9) rfl (by kernel_rfl) (by kernel_rfl) (by kernel_rfl) (fun _ _ _ h => h) (Or.inl ⟨by rfl, fun w' hSw => run_neqs PB b HPBL.out HB.out.1 _ (.tmp 85) (.tmp 87) _ _ rfl rfl rfl w'⟩) hSb ?_
                simp only [List.getElem_toArray, List.getElem_cons_succ, List.getElem_cons_zero, Act.put, List.setIfInBounds_toArray, List.set_cons_zero, List.set_cons_succ]
                change wpAnyH _ _ _ _ _ 1 #[true, true, true, true, true, true, true, true, true, true, false] _ _
                rw [deq]
                refine wpAnyH_take (i := 10) (v := ?_) rfl (by kernel_rfl) (by kernel_rfl) (by kernel_rfl) (fun _ _ _ h => h) (Or.inl ⟨by rfl, ?hy⟩) hSb ?_
                case hy => intro w' hSw; go_simp; try with_reducible rfl
                simp only [List.getElem_toArray, List.getElem_cons_succ, List.getElem_cons_zero, Act.put, List.setIfInBounds_toArray, List.set_cons_zero, List.set_cons_succ]
                change wpAnyH _ _ _ _ _ 0 #[true, true, true, true, true, true, true, true, true, true, true] _ _
                refine wpAnyH_done (by kernel_rfl) ?_ _
                have HPX2 := Lib.hid (HPX.out _ hSb)
                have HZX2 := Lib.hid (HZX.out _ hSb)
                have HEX2 := Lib.hid (HEX.out _ hSb)
                have HSB := Lib.hid hSb
                clear hSb hSa hS
                go_wp2_with (first
                  | (refine wpList_load_row rfl 25 (.tmp 4) rfl pb rfl _ _ _ _ HPX2.out Try.underlying25 rfl (by rw [pack25, HPS.out]) ?_)
                  | (refine wpList_store_row rfl 25 (.tmp 2) (.tmp 91) rfl w.heap.size (packA (.slice a5 k c5) R) rfl rfl 25 _ HZX2.out (by rw [pack25, HPS.out]) (by rw [HPS.out]; rfl) (packA_one _ _ _ _) ?_)
                  | fail)
                refine bodyPost_ret (results_row_tmp rfl _ _ w.heap.size 25 (packA (.slice a5 k c5) R) (0, 0) _ rfl (setRow_heap _ _ _ _ _ _ HZX2.out) Try.underlying25 rfl (by rw [pack25, HPS.out])) rfl ?_
                refine ⟨.inr ⟨L, R, a5, c5, k, ⟨H16.out, HM.out, by rw [← HPBE.out, HEQ.out]⟩, HLK.out, rfl, ?_⟩, below_setRow HEX2.out (Nat.le_refl _) _⟩
                have hbz : Below w.heap.size w (wb.setRow w.heap.size (packA (.slice a5 k c5) R)) := below_setRow HEX2.out (Nat.le_refl _) _
                exact (rowsAt_of (own_keep (HOWX.out _ HSB.out) (fun g h => setRow_other _ _ _ _ (by have := ((HOWX.out _ HSB.out).lt g h).1; have := HPB.out; omega))) (HRVX.out.up hbz (Nat.le_refl _))).2
              · have HNOT : Hid (∀ L0 R0, ¬ Pk b L0 R0) := fun L0 R0 h => by
                  obtain ⟨rfl, rfl⟩ := HPR.out L0 R0 h
                  exact heq (HPBE.out.trans h.2.2.symm)
                have deq : decide (PB = b) = false := decide_eq_false heq
                clear heq
                refine wp_region_held_drew (S := fun w' => Below wr.heap.size wr w') (by kernel_rfl) (Below.refl _ _).drew ?_
                intro hS
                generalize wr.drew = WD at hS ⊢
                change wpAnyH _ _ _ _ _ 11 #[false, false, false, false, false, false, false, false, false, false, false] _ _
                refine wpAnyH_take (i := 0) rfl (by kernel_rfl) (by kernel_rfl) (by kernel_rfl) (fun _ _ _ h => h) (yieldsIf_load_mid (by rfl) _ _ rfl pb 0 rfl (packA (.slice a5 k c5) R).toList _ (fun w' h => range_row (HPX.out w' h)) Try.underlying25 rfl (by rw [pack25, Array.length_toList, HPS.out])) hS ?_
                simp only [List.getElem_toArray, List.getElem_cons_succ, List.getElem_cons_zero, Act.put, List.setIfInBounds_toArray, List.set_cons_zero, List.set_cons_succ]
                change wpAnyH _ _ _ _ _ 10 #[true, false, false, false, false, false, false, false, false, false, false] _ _
                refine wpAnyH_ready (rs := [1]) (by kernel_rfl) (by simp) ?_
                refine AllReadyH.cons rfl (fun K hK => ?_) AllReadyH.nil
                rw [if_pos (by rfl)]
                go_simp
                refine (HMAY.out WD hS).mono ?_
                rintro e wa ⟨rfl, hb10⟩
                refine hK.out _ _ (hS.trans (hb10.mono hS.size)) (fun hSa => ?_)
                clear hK K
                simp only [List.getElem_toArray, List.getElem_cons_succ, List.getElem_cons_zero, Act.put, List.setIfInBounds_toArray, List.set_cons_zero, List.set_cons_succ]
                change wpAnyH _ _ _ _ _ 9 #[true, true, false, false, false, false, false, false, false, false, false] _ _
                clear hb10
                refine wpAnyH_take (i := 2) (v := ?_) rfl (by kernel_rfl) (by kernel_rfl) (by kernel_rfl) (fun _ _ _ h => h) (Or.inl ⟨by rfl, ?hy⟩) hSa ?_
                case hy => intro w' hSw; go_simp; try with_reducible rfl
                simp only [List.getElem_toArray, List.getElem_cons_succ, List.getElem_cons_zero, Act.put, List.setIfInBounds_toArray, List.set_cons_zero, List.set_cons_succ]
                change wpAnyH _ _ _ _ _ 8 #[true, true, true, false, false, false, false, false, false, false, false] _ _
                refine wpAnyH_take (i := 3) (v := ?_) rfl (by kernel_rfl) (by kernel_rfl) (by kernel_rfl) (fun _ _ _ h => h) (Or.inl ⟨by rfl, ?hy⟩) hSa ?_
                case hy => intro w' hSw; go_simp; try with_reducible rfl
                simp only [List.getElem_toArray, List.getElem_cons_succ, List.getElem_cons_zero, Act.put, List.setIfInBounds_toArray, List.set_cons_zero, List.set_cons_succ]
                change wpAnyH _ _ _ _ _ 7 #[true, true, true, true, false, false, false, false, false, false, false] _ _
                refine wpAnyH_take (i := 4) rfl (by kernel_rfl) (by kernel_rfl) (by kernel_rfl) (fun _ _ _ h => h) (yieldsIf_load_mid (by rfl) _ _ rfl pb 0 rfl (packA (.slice a5 k c5) R).toList _ (fun w' h => range_row (HPX.out w' h)) Try.underlying25 rfl (by rw [pack25, Array.length_toList, HPS.out])) hSa ?_
                simp only [List.getElem_toArray, List.getElem_cons_succ, List.getElem_cons_zero, Act.put, List.setIfInBounds_toArray, List.set_cons_zero, List.set_cons_succ]
                change wpAnyH _ _ _ _ _ 6 #[true, true, true, true, true, false, false, false, false, false, false] _ _
                refine wpAnyH_take (i := 7) (v := ?_) rfl (by kernel_rfl) (by kernel_rfl) (by kernel_rfl) (fun _ _ _ h => h) (Or.inl ⟨by rfl, ?hy⟩) hSa ?_
                case hy => intro w' hSw; go_simp; try with_reducible rfl
                simp only [List.getElem_toArray, List.getElem_cons_succ, List.getElem_cons_zero, Act.put, List.setIfInBounds_toArray, List.set_cons_zero, List.set_cons_succ]
                change wpAnyH _ _ _ _ _ 5 #[true, true, true, true, true, false, false, true, false, false, false] _ _
                refine wpAnyH_take (i := 8) rfl (by kernel_rfl) (by kernel_rfl) (by kernel_rfl) (fun _ _ _ h => h) (Or.inl ⟨by rfl, fun w' hSw => run_conv_op HNB.out (HBX.out w' hSw) _ (.tmp 86) _ rfl rfl⟩) hSa ?_
                simp only [List.getElem_toArray, List.getElem_cons_succ, List.getElem_cons_zero, Act.put, List.setIfInBounds_toArray, List.set_cons_zero, List.set_cons_succ]
                change wpAnyH _ _ _ _ _ 4 #[true, true, true, true, true, false, false, true, true, false, false] _ _
                refine wpAnyH_ready (rs := [5]) (by kernel_rfl) (by simp) ?_
                refine AllReadyH.cons rfl (fun K hK => ?_) AllReadyH.nil
                rw [if_pos (by rfl)]
                go_simp
                refine (HRB.out wa hSa).mono ?_
                rintro e wb ⟨v10, rfl, hown10, hb10⟩
                refine hK.out _ _ (hSa.trans (hb10.mono hSa.size)) (fun hSb => ?_)
                clear hK K
                simp only [List.getElem_toArray, List.getElem_cons_succ, List.getElem_cons_zero, Act.put, List.setIfInBounds_toArray, List.set_cons_zero, List.set_cons_succ]
                change wpAnyH _ _ _ _ _ 3 #[true, true, true, true, true, true, false, true, true, false, false] _ _
                obtain ⟨a10, c10, hv10, hbb10, -⟩ := own_bytes HPBL.out hown10
                subst hv10
                have HBB10 := Lib.hid hbb10
                clear hown10 hbb10 hb10
                refine wpAnyH_ready (rs := [6]) (by kernel_rfl) (by simp) ?_
                refine AllReadyH.cons rfl (fun K hK => ?_) AllReadyH.nil
                rw [if_pos (by rfl)]
                refine wp_conv (.tmp 84) rfl HBB10.out rfl rfl ?_
                refine hK.out _ wb (hSb) (fun hSb => ?_)
                clear hK K
                simp only [List.getElem_toArray, List.getElem_cons_succ, List.getElem_cons_zero, Act.put, List.setIfInBounds_toArray, List.set_cons_zero, List.set_cons_succ]
                change wpAnyH _ _ _ _ _ 2 #[true, true, true, true, true, true, true, true, true, false, false] _ _
                refine wpAnyH_take (i := 9) rfl (by kernel_rfl) (by kernel_rfl) (by kernel_rfl) (fun _ _ _ h => h) (Or.inl ⟨by rfl, fun w' hSw => run_neqs PB b HPBL.out HB.out.1 _ (.tmp 85) (.tmp 87) _ _ rfl rfl rfl w'⟩) hSb ?_
                simp only [List.getElem_toArray, List.getElem_cons_succ, List.getElem_cons_zero, Act.put, List.setIfInBounds_toArray, List.set_cons_zero, List.set_cons_succ]
                change wpAnyH _ _ _ _ _ 1 #[true, true, true, true, true, true, true, true, true, true, false] _ _
                rw [deq]
                refine wpAnyH_take (i := 10) (v := ?_) rfl (by kernel_rfl) (by kernel_rfl) (by kernel_rfl) (fun _ _ _ h => h) (Or.inl ⟨by rfl, ?hy⟩) hSb ?_
                case hy => intro w' hSw; go_simp; try with_reducible rfl
                simp only [List.getElem_toArray, List.getElem_cons_succ, List.getElem_cons_zero, Act.put, List.setIfInBounds_toArray, List.set_cons_zero, List.set_cons_succ]
                change wpAnyH _ _ _ _ _ 0 #[true, true, true, true, true, true, true, true, true, true, true] _ _
                refine wpAnyH_done (by kernel_rfl) ?_ _
                have HZX2 := Lib.hid (HZX.out _ hSb)
                have HEX2 := Lib.hid (HEX.out _ hSb)
                clear hSb hSa hS
                go_wp2_with (first
                  | (refine wpList_store_row rfl 25 (.tmp 2) (.tmp 90) rfl w.heap.size #[.slice none 0 0, .int .i64 0, .int .i64 0, .int .i64 0, .int .i64 0, .int .i64 0, .int .i64 0, .int .i64 0, .int .i64 0, .int .i64 0, .int .i64 0, .int .i64 0, .int .i64 0, .int .i64 0, .int .i64 0, .int .i64 0, .int .i64 0] rfl rfl 25 _ HZX2.out (by rw [pack25]; rfl) (by rfl) zp_one ?_)
                  | fail)
                refine bodyPost_ret (results_row_tmp rfl _ _ w.heap.size 25 #[.slice none 0 0, .int .i64 0, .int .i64 0, .int .i64 0, .int .i64 0, .int .i64 0, .int .i64 0, .int .i64 0, .int .i64 0, .int .i64 0, .int .i64 0, .int .i64 0, .int .i64 0, .int .i64 0, .int .i64 0, .int .i64 0, .int .i64 0] (0, 0) _ rfl (setRow_heap _ _ _ _ _ _ HZX2.out) Try.underlying25 rfl (by rw [pack25]; rfl)) rfl ?_
                exact ⟨.inl ⟨rfl, HNOT.out⟩, below_setRow HEX2.out (Nat.le_refl _) _⟩
            · have hmf : mayP L R = false := by simpa using hmay
              have HNOT : Hid (∀ L0 R0, ¬ Pk b L0 R0) := fun L0 R0 h => by
                obtain ⟨rfl, rfl⟩ := HPR.out L0 R0 h
                exact hmay h.2.1
              rw [hmf] at HMAY
              clear hmay hmf
              refine wp_region_held_drew (S := fun w' => Below wr.heap.size wr w') (by kernel_rfl) (Below.refl _ _).drew ?_
              intro hS
              generalize wr.drew = WD at hS ⊢
              change wpAnyH _ _ _ _ _ 11 #[false, false, false, false, false, false, false, false, false, false, false] _ _
              refine wpAnyH_take (i := 0) rfl (by kernel_rfl) (by kernel_rfl) (by kernel_rfl) (fun _ _ _ h => h) (yieldsIf_load_mid (by rfl) _ _ rfl pb 0 rfl (packA (.slice a5 k c5) R).toList _ (fun w' h => range_row (HPX.out w' h)) Try.underlying25 rfl (by rw [pack25, Array.length_toList, HPS.out])) hS ?_
              simp only [List.getElem_toArray, List.getElem_cons_succ, List.getElem_cons_zero, Act.put, List.setIfInBounds_toArray, List.set_cons_zero, List.set_cons_succ]
              change wpAnyH _ _ _ _ _ 10 #[true, false, false, false, false, false, false, false, false, false, false] _ _
              refine wpAnyH_ready (rs := [1]) (by kernel_rfl) (by simp) ?_
              refine AllReadyH.cons rfl (fun K hK => ?_) AllReadyH.nil
              rw [if_pos (by rfl)]
              go_simp
              refine (HMAY.out WD hS).mono ?_
              rintro e wa ⟨rfl, hb10⟩
              refine hK.out _ _ (hS.trans (hb10.mono hS.size)) (fun hSa => ?_)
              clear hK K
              simp only [List.getElem_toArray, List.getElem_cons_succ, List.getElem_cons_zero, Act.put, List.setIfInBounds_toArray, List.set_cons_zero, List.set_cons_succ]
              change wpAnyH _ _ _ _ _ 9 #[true, true, false, false, false, false, false, false, false, false, false] _ _
              clear hb10
              refine wpAnyH_take (i := 2) (v := ?_) rfl (by kernel_rfl) (by kernel_rfl) (by kernel_rfl) (fun _ _ _ h => h) (Or.inl ⟨by rfl, ?hy⟩) hSa ?_
              case hy => intro w' hSw; go_simp; try with_reducible rfl
              simp only [List.getElem_toArray, List.getElem_cons_succ, List.getElem_cons_zero, Act.put, List.setIfInBounds_toArray, List.set_cons_zero, List.set_cons_succ]
              change wpAnyH _ _ _ _ _ 8 #[true, true, true, false, false, false, false, false, false, false, false] _ _
              refine wpAnyH_take (i := 3) (v := ?_) rfl (by kernel_rfl) (by kernel_rfl) (by kernel_rfl) (fun _ _ _ h => h) (Or.inl ⟨by rfl, ?hy⟩) hSa ?_
              case hy => intro w' hSw; go_simp; try with_reducible rfl
              simp only [List.getElem_toArray, List.getElem_cons_succ, List.getElem_cons_zero, Act.put, List.setIfInBounds_toArray, List.set_cons_zero, List.set_cons_succ]
              change wpAnyH _ _ _ _ _ 7 #[true, true, true, true, false, false, false, false, false, false, false] _ _
              refine wpAnyH_take (i := 4) rfl (by kernel_rfl) (by kernel_rfl) (by kernel_rfl) (fun _ _ _ h => h) (Or.inr ⟨by rfl, rfl⟩) hSa ?_
              simp only [List.getElem_toArray, List.getElem_cons_succ, List.getElem_cons_zero, Act.put, List.setIfInBounds_toArray, List.set_cons_zero, List.set_cons_succ]
              change wpAnyH _ _ _ _ _ 6 #[true, true, true, true, true, false, false, false, false, false, false] _ _
              refine wpAnyH_take (i := 5) rfl (by kernel_rfl) (by kernel_rfl) (by kernel_rfl) (fun _ _ _ h => h) (Or.inr ⟨by rfl, rfl⟩) hSa ?_
              simp only [List.getElem_toArray, List.getElem_cons_succ, List.getElem_cons_zero, Act.put, List.setIfInBounds_toArray, List.set_cons_zero, List.set_cons_succ]
              change wpAnyH _ _ _ _ _ 5 #[true, true, true, true, true, true, false, false, false, false, false] _ _
              refine wpAnyH_take (i := 6) rfl (by kernel_rfl) (by kernel_rfl) (by kernel_rfl) (fun _ _ _ h => h) (Or.inr ⟨by rfl, rfl⟩) hSa ?_
              simp only [List.getElem_toArray, List.getElem_cons_succ, List.getElem_cons_zero, Act.put, List.setIfInBounds_toArray, List.set_cons_zero, List.set_cons_succ]
              change wpAnyH _ _ _ _ _ 4 #[true, true, true, true, true, true, true, false, false, false, false] _ _
              refine wpAnyH_take (i := 7) rfl (by kernel_rfl) (by kernel_rfl) (by kernel_rfl) (fun _ _ _ h => h) (Or.inr ⟨by rfl, rfl⟩) hSa ?_
              simp only [List.getElem_toArray, List.getElem_cons_succ, List.getElem_cons_zero, Act.put, List.setIfInBounds_toArray, List.set_cons_zero, List.set_cons_succ]
              change wpAnyH _ _ _ _ _ 3 #[true, true, true, true, true, true, true, true, false, false, false] _ _
              refine wpAnyH_take (i := 8) rfl (by kernel_rfl) (by kernel_rfl) (by kernel_rfl) (fun _ _ _ h => h) (Or.inr ⟨by rfl, rfl⟩) hSa ?_
              simp only [List.getElem_toArray, List.getElem_cons_succ, List.getElem_cons_zero, Act.put, List.setIfInBounds_toArray, List.set_cons_zero, List.set_cons_succ]
              change wpAnyH _ _ _ _ _ 2 #[true, true, true, true, true, true, true, true, true, false, false] _ _
              refine wpAnyH_take (i := 9) rfl (by kernel_rfl) (by kernel_rfl) (by kernel_rfl) (fun _ _ _ h => h) (Or.inr ⟨by rfl, rfl⟩) hSa ?_
              simp only [List.getElem_toArray, List.getElem_cons_succ, List.getElem_cons_zero, Act.put, List.setIfInBounds_toArray, List.set_cons_zero, List.set_cons_succ]
              change wpAnyH _ _ _ _ _ 1 #[true, true, true, true, true, true, true, true, true, true, false] _ _
              refine wpAnyH_take (i := 10) (v := ?_) rfl (by kernel_rfl) (by kernel_rfl) (by kernel_rfl) (fun _ _ _ h => h) (Or.inl ⟨by rfl, ?hy⟩) hSa ?_
              case hy => intro w' hSw; go_simp; try with_reducible rfl
              simp only [List.getElem_toArray, List.getElem_cons_succ, List.getElem_cons_zero, Act.put, List.setIfInBounds_toArray, List.set_cons_zero, List.set_cons_succ]
              change wpAnyH _ _ _ _ _ 0 #[true, true, true, true, true, true, true, true, true, true, true] _ _
              refine wpAnyH_done (by kernel_rfl) ?_ _
              have HZX2 := Lib.hid (HZX.out _ hSa)
              have HEX2 := Lib.hid (HEX.out _ hSa)
              clear hSa hS
              go_wp2_with (first
                | (refine wpList_store_row rfl 25 (.tmp 2) (.tmp 90) rfl w.heap.size #[.slice none 0 0, .int .i64 0, .int .i64 0, .int .i64 0, .int .i64 0, .int .i64 0, .int .i64 0, .int .i64 0, .int .i64 0, .int .i64 0, .int .i64 0, .int .i64 0, .int .i64 0, .int .i64 0, .int .i64 0, .int .i64 0, .int .i64 0] rfl rfl 25 _ HZX2.out (by rw [pack25]; rfl) (by rfl) zp_one ?_)
                | fail)
              refine bodyPost_ret (results_row_tmp rfl _ _ w.heap.size 25 #[.slice none 0 0, .int .i64 0, .int .i64 0, .int .i64 0, .int .i64 0, .int .i64 0, .int .i64 0, .int .i64 0, .int .i64 0, .int .i64 0, .int .i64 0, .int .i64 0, .int .i64 0, .int .i64 0, .int .i64 0, .int .i64 0, .int .i64 0] (0, 0) _ rfl (setRow_heap _ _ _ _ _ _ HZX2.out) Try.underlying25 rfl (by rw [pack25]; rfl)) rfl ?_
              exact ⟨.inl ⟨rfl, HNOT.out⟩, below_setRow HEX2.out (Nat.le_refl _) _⟩
end Go.Proofs.Ythpglpnonecnfaa
