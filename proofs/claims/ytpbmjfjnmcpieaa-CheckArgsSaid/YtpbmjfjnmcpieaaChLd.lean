/- check.looker.bytes of a heap whose pages are free. -/
import Derived.Test.YtpbmjfjnmcpieaaChLc
set_option linter.unusedVariables false
set_option linter.unusedSimpArgs false
namespace Go.Proofs.Ytpbmjfjnmcpieaa
open Go Go.RowKit
/-- the traces in the first k blocks -/
def trK (L : List (List Nat)) : Nat → List Ft
  | 0 => []
  | k + 1 => trK L k ++ (if zeroB (L.getD k []) then [] else [⟨5, k⟩])
theorem trK_len (L : List (List Nat)) : ∀ k, (trK L k).length ≤ k
  | 0 => Nat.le_refl _
  | k + 1 => by
    have := trK_len L k
    unfold trK
    rw [List.length_append]
    split
    · simp; omega
    · simp; omega
set_option maxRecDepth 100000 in
set_option maxHeartbeats 1000000 in
theorem lbytes_c2 (lk x : Nat) (R : List Nat) (h16 : R.length = 16) (va : Option Addr) (n pc : Nat) (qa : Option Addr) (qc : Nat) (av : Value) (P : List Pg) (hn : P.length = n) (hnm : n ≤ 64) (hz : ∀ p ∈ P, p.kind = 0) (L : List (List Nat)) (hL : L.length = n) (h256 : ∀ l ∈ L, l.length = 256) (w : World) (h : LkAt w lk x R (.slice va n pc) (.slice qa n qc) (.slice none 0 0) av) (hP : ∀ w', Below lk w w' → PgsAt w' va P) (hQ : ∀ w', Below lk w w' → RowsAt w' qa L) :
    Calls Try.prog 17 #[.pointer (some ⟨lk, 0, none⟩)] w fun e w' => (∃ u, e = .returned u) ∧ ∃ fv, LkAt w' lk x R (.slice va n pc) (.slice qa n qc) fv av ∧ w'.ownsRow w.heap.size 56 2 fv (trK L n).length (cellsF (trK L n)) ∧ Below lk w w' ∧ ∀ q, q < w.heap.size → q ≠ lk → w'.heap[q]? = w.heap[q]? := by
  have a1 := (cells_at h 18).trans (lkA_18 h16 _ _ _ _)
  have HL0 := Lib.hid h
  have HLS : Hid (lk < w.heap.size) := lt_of_block h
  have HNM := Lib.hid hnm
  have HLN := Lib.hid hL
  have H16 := Lib.hid h16
  have H256 := Lib.hid h256
  have HQ := Lib.hid hQ
  have HEND : Hid (∀ k, k < n → ∀ w' fv, Below lk w w' → LkAt w' lk x R (.slice va n pc) (.slice qa n qc) fv av → Calls Try.prog 33 #[.pointer (some ⟨lk, 0, none⟩), .int .i64 (k : Int)] w' fun e w'' => e = .returned (.int .i64 0) ∧ Below w'.heap.size w' w'') := fun k hk w' fv hb h' =>
    lend_c lk x R h16 va n pc _ fv av P hn hnm hz k hk w' h' (hP w' hb)
  clear h h16 hn hnm hz hL h256 hP hQ
  go_enter Try.func17, Try.ntmps17
  go_wp2
  clear a1
  go_loopw [10] (fun vi wr => ∃ k : Nat, k ≤ n ∧ vi = .int .i64 (k : Int) ∧ ∃ fv, Hid (LkAt wr lk x R (.slice va n pc) (.slice qa n qc) fv av) ∧ Hid (wr.ownsRow w.heap.size 56 2 fv (trK L k).length (cellsF (trK L k))) ∧ Hid (Below lk w wr) ∧ Hid (w.heap.size ≤ wr.heap.size) ∧ Hid (∀ q, q < w.heap.size → q ≠ lk → wr.heap[q]? = w.heap[q]?)) (fun vi _ => n - (intOf vi).toNat)
  case atStart => exact ⟨0, by omega, rfl, _, HL0.out, World.ownsRow_nil _ _ _ _, Below.refl _ _, Nat.le_refl _, fun _ _ _ => rfl⟩
  case round =>
    obtain ⟨k, hk, rfl, fv, hlk, hown, hbel, hsz, hsv⟩ := hrel
    by_cases hlt : k < n
    · have hd : decide ((k : Int) < (n : Int)) = true := by simp; omega
      have dl : (k : Int) < (n : Int) := by omega
      have d0 : ¬ (k : Int) < 0 := by omega
      have hkl : k < L.length := by rw [HLN.out]; exact hlt
      obtain ⟨b, hb⟩ : ∃ b, b = L[k] := ⟨_, rfl⟩
      have hget : L[k]? = some b := by rw [hb]; exact List.getElem?_eq_getElem hkl
      have hbl : b.length = 256 := H256.out _ (List.mem_of_getElem? hget)
      obtain ⟨g, o, v, rfl, hg, hc0, hs0⟩ := HQ.out wr hbel.out k b hget
      obtain ⟨a0, c0, rfl, hbb, hn0, hlc, hcm⟩ := hs0
      obtain ⟨gk, ok, rfl, _, hgk, _⟩ := hbb.2 (by rw [hbl]; omega)
      have hTR : trK L (k + 1) = trK L k ++ (if zeroB b then [] else [⟨5, k⟩]) := by
        show trK L k ++ (if zeroB (L.getD k []) then [] else [⟨5, k⟩]) = _
        rw [List.getD_eq_getElem?_getD, hget]; rfl
      have HTR := Lib.hid hTR
      have HE := Lib.hid (HEND.out k hlt wr fv hbel.out hlk.out)
      have HBY : Hid (∀ w', Below wr.heap.size wr w' → BytesAt w' (some ⟨gk, subO ok c0 0, none⟩) (c0 - 0) b) := fun w' hw => by
        obtain ⟨g', o', v', e1, _, hc2, hs2⟩ := HQ.out w' (hbel.out.trans (hw.mono (by have := hsz.out; have := HLS.out; omega))) k b hget
        cases e1
        have hcell := (hw.cell (p := ⟨g, o + k, none⟩) hg).trans hc0
        rw [hcell] at hc2
        obtain ⟨a9, c9, e9, hb9, _⟩ := hs2
        rw [Option.some.inj hc2.symm] at e9
        cases e9
        have := hb9.sub (lo := 0) (hi := b.length) (by omega) (by omega)
        simp only [List.drop_zero, Nat.sub_zero, List.take_length] at this ⊢
        exact this
      have hsl : ∀ w : World, (Instr.sliceAt 34 (.slice (some ⟨gk, ok, none⟩) 256 c0) (some (.int .i64 0)) none none).run Try.prog w = .ok (.slice (some ⟨gk, subO ok c0 0, none⟩) 256 (c0 - 0)) w := fun w => run_subF gk ok 256 c0 0 (by omega) w
      have HBL := Lib.hid hbl
      have HK := Lib.hid hlt
      have HLEN := Lib.hid (trK_len L k)
      have ek : IntKind.i64.wrap ((k : Int) + 1) = (k : Int) + 1 := by have := HNM.out; exact IntWalk.i64_in _ (by omega)
      rw [hbl] at hc0
      clear hb hget hkl hbl hg hbb hn0 hlc hcm hgk hTR hlt hk
      go_wp2_with fail
      refine HE.out.mono ?_
      rintro e w1 ⟨rfl, hb1⟩
      have HL1 : Hid (LkAt w1 lk x R (.slice va n pc) (.slice (some ⟨g, o, none⟩) n qc) fv av) := (hb1.block _ (lt_of_block hlk.out)).trans hlk.out
      have HO1 := Lib.hid (own_up hown.out hb1)
      have HE1 : Hid (Below lk w w1) := hbel.out.trans (hb1.mono (by have := hsz.out; have := HLS.out; omega))
      have HV1 : Hid (∀ q, q < w.heap.size → q ≠ lk → w1.heap[q]? = w.heap[q]?) := fun q hq hql => (hb1.block q (by have := hsz.out; omega)).trans (hsv.out q hq hql)
      have HS1 : Hid (w.heap.size ≤ w1.heap.size) := Nat.le_trans hsz.out hb1.size
      have HZC := Lib.hid (zero_c (some ⟨gk, subO ok c0 0, none⟩) 256 (c0 - 0) b HBL.out (by omega) w1 (HBY.out w1 hb1))
      clear hb1 hlk hown hbel hsv hsz HE hc0 HBY
      obtain ⟨z, hz⟩ : ∃ z, z = zeroB b := ⟨_, rfl⟩
      rw [← hz] at HZC HTR
      clear hz
      go_wp2_with fail
      refine HZC.out.mono ?_
      rintro e w2 ⟨rfl, rfl⟩
      cases z with
      | true =>
        have hTR := HTR.out
        rw [if_pos rfl, List.append_nil] at hTR
        have HT2 := Lib.hid hTR
        clear hTR HTR
        go_wp2
        go_roundw
        case rel => exact ⟨k + 1, by have := HK.out; omega, by go_num, fv, HL1.out, by rw [HT2.out]; exact HO1.out, HE1.out, HS1.out, HV1.out⟩
        case measure => simp [intOf]; have := HK.out; omega
      | false =>
        have hTR := HTR.out
        rw [if_neg (by simp)] at hTR
        have HT2 := Lib.hid hTR
        have HWR := Lib.hid (lwrong_c w.heap.size lk x HLS.out R H16.out _ _ fv av (trK L k).length (trK L k) (by have := HLEN.out; have := HNM.out; have := HK.out; omega) 5 (k : Int) w1 HL1.out HS1.out HO1.out)
        clear hTR HTR
        go_wp2_with fail
        refine HWR.out.mono ?_
        rintro e w3 ⟨⟨u, rfl⟩, fv3, hl3, ho3, hb3, hq3⟩
        have HL3 := Lib.hid hl3
        have HO3 := Lib.hid ho3
        have HE3 : Hid (Below lk w w3) := HE1.out.trans hb3
        have HS3 : Hid (w.heap.size ≤ w3.heap.size) := Nat.le_trans HS1.out hb3.size
        have HV3 : Hid (∀ q, q < w.heap.size → q ≠ lk → w3.heap[q]? = w.heap[q]?) := fun q hq hql => (hq3 q hq hql).trans (HV1.out q hq hql)
        clear hl3 ho3 hb3 hq3
        go_wp2
        go_roundw
        case rel => exact ⟨k + 1, by have := HK.out; omega, by go_num, fv3, HL3.out, by rw [HT2.out, List.length_append]; exact HO3.out, HE3.out, HS3.out, HV3.out⟩
        case measure => simp [intOf]; have := HK.out; omega
    · have hd : decide ((k : Int) < (n : Int)) = false := by simp; omega
      have dl : ¬ (k : Int) < (n : Int) := by omega
      have hkn : k = n := by omega
      subst hkn
      go_wp2
      refine bodyPost_end (results_none rfl _ _ _) rfl ?_
      exact ⟨⟨_, rfl⟩, fv, hlk.out, hown.out, hbel.out, hsv.out⟩
end Go.Proofs.Ytpbmjfjnmcpieaa
