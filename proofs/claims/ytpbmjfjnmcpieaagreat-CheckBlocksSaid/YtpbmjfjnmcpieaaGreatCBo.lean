/- Texts ChNm, RCk, put together by pack.py. -/
import Derived.Test.YtpbmjfjnmcpieaaGreatCBl
import Derived.Test.YtpbmjfjnmcpieaaGreatCBm
import Derived.Test.YtpbmjfjnmcpieaaGreatCBn
set_option maxRecDepth 100000
set_option maxHeartbeats 16000000
set_option linter.unusedVariables false
set_option linter.unusedSimpArgs false
namespace Go.Proofs.YtpbmjfjnmcpieaaGreat
open Go Go.RowKit
def fSt (P : List Pg) (L : List (List Nat)) (R : List Nat) (x n : Nat) : Nat -> List Ft
 | 0 => []
 | 1 => bysK P L n
 | 2 => bysK P L n
 | 3 => bysK P L n ++ sersK (objsK P L n) x (objsK P L n).length
 | _ => bysK P L n ++ sersK (objsK P L n) x (objsK P L n).length ++ rtsK (objsK P L n) R 16
def aSt (P : List Pg) (L : List (List Nat)) (n : Nat) : Nat -> List Pl
 | 0 => []
 | 1 => []
 | _ => objsK P L n
theorem blocks_some (n : Nat) (t : Int) (hg : geoB n t = true) (g o k cap : Nat) (L : List (List Nat)) (hL : L.length = k) (hk : k = sealedN n) (hcap : k <= cap) (h256 : ∀ l ∈ L, l.length = 256) (hlt : ∀ l ∈ L, ∀ y ∈ l, y < 256) (x : Nat) (R : List Nat) (P : List Pg) (hm : metaN n (L.take (1 + mapsN n)) = some (x, R, P)) (w : World) (hR : RowsAt w (some ⟨g, o, none⟩) L) :
  Calls Tryz.prog 8 #[.agg #[.int .i64 (n : Int), .int .i64 t], .slice (some ⟨g, o, none⟩) k cap] w fun e w' => ∃ fv, e = .returned (.tuple #[fv, .int .i64 0]) /\ w'.ownsRow w.heap.size 67 2 fv (faultsK n L).length (cellsF (faultsK n L)) /\ Below w.heap.size w w' := by
 have hp := (geoB_iff n t).1 hg
 have hmf := meta_facts (L := L.take (1 + mapsN n)) (by rw [List.length_take, hL, hk]; unfold sealedN; omega) (fun l hl => hlt l (List.mem_of_mem_take hl)) hm
 have hfk : faultsK n L = bysK P (L.drop (1 + mapsN n)) n ++ sersK (objsK P (L.drop (1 + mapsN n)) n) x (objsK P (L.drop (1 + mapsN n)) n).length ++ rtsK (objsK P (L.drop (1 + mapsN n)) n) R 16 := by unfold faultsK; rw [hm]
 have hn64 : n <= 64 := by omega
 have hmn := mapsN_le n hn64
 have hks : k = 1 + mapsN n + n := by rw [hk]; rfl
 have HG : Hid ((w.alloc (.cells #[.int .i64 (n : Int), .int .i64 t] 31)).heap[w.heap.size]? = some (.cells #[.int .i64 (n : Int), .int .i64 t] 31 (0, 0))) := heap_new' _ _
 have HE : Hid (Below w.heap.size w (w.alloc (.cells #[.int .i64 (n : Int), .int .i64 t] 31))) := below_box _ _
 have HC := Lib.hid (fun w => gcheck_c n t w)
 have HS := Lib.hid (fun w => gSealed_c n t w)
 have HA := Lib.hid (fun w => gPageAt_c n 0 t hg (by omega) w)
 have hany : L.any (fun l => !(l.length == 256)) = false := by
  rw [List.any_eq_false]; intro l hl; simp [h256 l hl]
 obtain ⟨fi, hfi⟩ : ∃ fi, fi = 1 + mapsN n := ⟨_, rfl⟩
 rw [show 1 + mapsN n + 0 = fi by omega] at HA
 rw [<- hfi] at hm hfk
 obtain ⟨fS, hfS0, hfS⟩ : ∃ fS : Nat -> List Ft, fS 0 = [] /\ (fS 1 = bysK P (L.drop fi) n /\ fS 2 = bysK P (L.drop fi) n /\ fS 3 = bysK P (L.drop fi) n ++ sersK (objsK P (L.drop fi) n) x (objsK P (L.drop fi) n).length /\ fS 4 = bysK P (L.drop fi) n ++ sersK (objsK P (L.drop fi) n) x (objsK P (L.drop fi) n).length ++ rtsK (objsK P (L.drop fi) n) R 16 /\ True) := ⟨fSt P (L.drop fi) R x n, rfl, rfl, rfl, rfl, rfl, trivial⟩
 obtain ⟨aS, haS⟩ : ∃ aS : Nat -> List Pl, (aS 0 = [] /\ aS 1 = [] /\ aS 2 = objsK P (L.drop fi) n /\ aS 3 = objsK P (L.drop fi) n /\ aS 4 = objsK P (L.drop fi) n) := ⟨aSt P (L.drop fi) n, rfl, rfl, rfl, rfl, rfl⟩
 have HFS := Lib.hid hfS
 have HAS := Lib.hid haS
 have HF0 := Lib.hid hfS0
 have HA0 := Lib.hid haS.1
 have HFK := Lib.hid hfk.symm
 have HMF := Lib.hid hmf
 have HTT : Hid (1 ≠ 67) := by show _ ≠ _; decide
 have HX : Hid (∀ w', Below w.heap.size w w' -> Calls Tryz.prog 20 #[.slice (some ⟨g, o, none⟩) k cap, .func (.func 17) #[] #[]] w' fun e w'' => e = .returned (.bool false) /\ Below w'.heap.size w' w'') := fun w' h => by
  have := cf_long_c (some ⟨g, o, none⟩) k cap L hL (by omega) w' (hR.up h (Nat.le_refl _))
  rw [hany] at this; exact this
 have hsl : ifGeo n t (sealedN (n : Int).toNat) = k := by unfold ifGeo; rw [if_pos hg, Int.toNat_natCast, hk]
 have hge : geoE n t = 0 := by unfold geoE; rw [if_pos hg]
 rw [hsl] at HS
 rw [hge] at HC
 have HGB := Lib.hid hg
 have HL := Lib.hid hL
 have HKS := Lib.hid (show k = fi + n /\ n <= 64 /\ k <= cap /\ fi <= 5 /\ P.length = n from ⟨by omega, hn64, hcap, by omega, hmf.2.2.1⟩)
 have HFI := Lib.hid hfi
 have H256 := Lib.hid h256
 have HM := Lib.hid hm
 have HRW := Lib.hid hR
 have hd : ((k : Int) == (k : Int)) = true := beq_self_eq_true _
 clear hfi hp hn64 hmn hks hany hsl hge hg hL hk hcap h256 hm hR hmf hfk hfS hfS0 haS hlt
 go_enter Tryz.func8, Tryz.ntmps8
 go_wp2_with (first
  | (refine wpList_load_row rfl 31 (.tmp 2) rfl w.heap.size rfl _ _ _ _ HG.out Tryz.underlying31 rfl (by rw [geo2]; rfl) ?_)
  | fail)
 refine (HC.out _).mono ?_
 rintro e w1 ⟨rfl, hb1⟩
 have HE1 : Hid (Below w.heap.size w w1) := HE.out.trans (hb1.mono HE.out.size)
 have HG1 := Lib.hid ((hb1.block _ (lt_of_block HG.out)).trans HG.out)
 have g0 := (cells_at HG1.out 0).trans (show _ = some (Value.int .i64 (n : Int)) from rfl)
 have g1 := (cells_at HG1.out 1).trans (show _ = some (Value.int .i64 t) from rfl)
 clear hb1
 go_wp2_with fail
 refine (HS.out _).mono ?_
 rintro e w2 ⟨rfl, hb2⟩
 have HE2 : Hid (Below w.heap.size w w2) := HE1.out.trans (hb2.mono HE1.out.size)
 have HG2 := Lib.hid ((hb2.block _ (lt_of_block HG1.out)).trans HG1.out)
 clear hb2 g0 g1
 go_wp2_with fail
 refine (HX.out _ HE2.out).mono ?_
 rintro e w3 ⟨rfl, hb3⟩
 have HE3 : Hid (Below w.heap.size w w3) := HE2.out.trans (hb3.mono HE2.out.size)
 have HG3 := Lib.hid ((hb3.block _ (lt_of_block HG2.out)).trans HG2.out)
 clear hb3
 go_wp2_with (first
  | (refine wpList_load_row rfl 31 (.tmp 2) rfl w.heap.size rfl _ _ _ _ HG3.out Tryz.underlying31 rfl (by rw [geo2]; rfl) ?_)
  | fail)
 refine (HA.out _).mono ?_
 rintro e w4 ⟨rfl, hb4⟩
 have HE4 : Hid (Below w.heap.size w w4) := HE3.out.trans (hb4.mono HE3.out.size)
 have HG4 := Lib.hid ((hb4.block _ (lt_of_block HG3.out)).trans HG3.out)
 have HR4 := Lib.hid (HRW.out.up HE4.out (Nat.le_refl _))
 clear hb4
 go_wp2
 refine regionBP w.heap.size g o k cap n x fi t R P L w4.heap.size w4 HG4.out HGB.out HL.out HFI.out (by have := HKS.out; omega) HKS.out.2.2.1 H256.out HR4.out HM.out (Nat.le_refl _) ?_ ?_
 ·intro vs w5 hv hk
  obtain ⟨a6, c6, v6, o6⟩ := hv 6 (by omega)
  have v7 : vs 7 = .int .i64 0 := hv 7 (by omega)
  obtain ⟨b8, v8, hb8, f8⟩ := hv 8 (by omega)
  rw [v6, v7, v8]
  clear hv v6 v7 v8
  clear HC HS HA HX HG HG1 HG2 HG3 HG4 HE HE1 HE2 HE3 HRW HM hd
  refine wpList_store_row rfl 63 (.tmp 8) (.tmp 36) rfl b8 (mtA x R (.slice a6 n c6)) rfl rfl 63 _ f8 (by rw [meta18, mtA_size, HMF.out.1]) (by rw [mtA_size, HMF.out.1]; rfl) (mtA_one _ _ _ _ _) ?_
  have hM6 : (w5.setRow b8 (mtA x R (.slice a6 n c6))).heap[b8]? = some (.cells (mtA x R (.slice a6 n c6)) 63 (0, 0)) := setRow_heap _ _ _ _ _ _ f8
  have h46 : Below w4.heap.size w4 (w5.setRow b8 (mtA x R (.slice a6 n c6))) := below_setRow hk hb8 _
  have hK6 : ∀ q, q ≠ b8 -> (w5.setRow b8 (mtA x R (.slice a6 n c6))).heap[q]? = w5.heap[q]? := fun q hq => setRow_other _ _ _ _ hq
  generalize w5.setRow b8 (mtA x R (.slice a6 n c6)) = w6 at *
  have ho6 : w6.ownsRow w4.heap.size 100 5 (.slice a6 n c6) n (cellsP P) := own_keep o6 (fun q hq => hK6 q (by
   rintro rfl
   rcases o6.2 with ⟨h9, _⟩ | ⟨g9, cap9, cur9, e1, e2, e3, e4⟩
   ·rw [h9] at hq; cases hq
   ·rw [e1] at hq; cases hq
    rw [e3] at f8; cases f8))
  have HM6 := Lib.hid hM6
  have HP6 := Lib.hid (pgs_of_own ho6)
  have HE6 : Hid (Below w.heap.size w w6) := HE4.out.trans (h46.mono HE4.out.size)
  have HR6 : Hid (RowsAt w6 (some ⟨g, subO o cap fi, none⟩) (L.drop fi)) := (HR4.out.up h46 (Nat.le_refl _)).drop _ (by have h1 := HL.out; have h2 := HKS.out; omega)
  clear hM6 h46 hK6 ho6 o6 f8 hb8 hk HE4 HR4
  go_wp2
  refine regionBL b8 g o k cap n x fi R a6 c6 w6.heap.size w6 HM6.out HMF.out.1 (by have := HKS.out; omega) HKS.out.2.2.1 (Nat.le_refl _) ?_
  intro vs2 w7 hv2 hk2
  obtain ⟨lk, v10, hlk, f10⟩ := hv2 6 (by omega)
  rw [v10]
  clear hv2 v10
  have hqe : k - fi = n := by have := HKS.out; omega
  rw [hqe] at f10
  have HL7 := Lib.hid f10
  have HB7 : Hid (∀ w', Below lk w7 w' -> Below w6.heap.size w6 w') := fun w' h => Below.trans hk2 (h.mono hlk)
  have HP7 : Hid (∀ w', Below lk w7 w' -> PgsAt w' a6 P) := fun w' h => HP6.out.up (HB7.out w' h) (Nat.le_refl _)
  have HQ7 : Hid (∀ w', Below lk w7 w' -> RowsAt w' (some ⟨g, subO o cap fi, none⟩) (L.drop fi)) := fun w' h => HR6.out.up (HB7.out w' h) (Nat.le_refl _)
  have HE7 : Hid (Below w.heap.size w w7) := HE6.out.trans (hk2.mono HE6.out.size)
  have HLS : Hid (w.heap.size <= lk /\ lk < w7.heap.size) := ⟨by have := HE6.out.size; omega, lt_of_block f10⟩
  clear f10 hk2 hlk HM6 HP6 HE6 HR6 hqe
  go_wp2
  have HF8 : Hid ((w7.alloc (.cells #[.func (.func 23) #[.pointer (some ⟨lk, 0, none⟩)] #[], .func (.func 24) #[.pointer (some ⟨lk, 0, none⟩)] #[], .func (.func 25) #[.pointer (some ⟨lk, 0, none⟩)] #[], .func (.func 26) #[.pointer (some ⟨lk, 0, none⟩)] #[]] 1)).heap[w7.heap.size]? = some (.cells #[.func (.func 23) #[.pointer (some ⟨lk, 0, none⟩)] #[], .func (.func 24) #[.pointer (some ⟨lk, 0, none⟩)] #[], .func (.func 25) #[.pointer (some ⟨lk, 0, none⟩)] #[], .func (.func 26) #[.pointer (some ⟨lk, 0, none⟩)] #[]] 1 (0, 0))) := heap_new' _ _
  have HL8 : Hid (LkAt (w7.alloc (.cells #[.func (.func 23) #[.pointer (some ⟨lk, 0, none⟩)] #[], .func (.func 24) #[.pointer (some ⟨lk, 0, none⟩)] #[], .func (.func 25) #[.pointer (some ⟨lk, 0, none⟩)] #[], .func (.func 26) #[.pointer (some ⟨lk, 0, none⟩)] #[]] 1)) lk x R (.slice a6 n c6) (.slice (some ⟨g, subO o cap fi, none⟩) n (cap - fi)) (.slice none 0 0) (.slice none 0 0)) := (heap_old' _ _ _ HLS.out.2).trans HL7.out
  have HB8 : Hid (Below lk w7 (w7.alloc (.cells #[.func (.func 23) #[.pointer (some ⟨lk, 0, none⟩)] #[], .func (.func 24) #[.pointer (some ⟨lk, 0, none⟩)] #[], .func (.func 25) #[.pointer (some ⟨lk, 0, none⟩)] #[], .func (.func 26) #[.pointer (some ⟨lk, 0, none⟩)] #[]] 1))) := (below_box w7 _).mono (Nat.le_of_lt HLS.out.2)
  have HE8 : Hid (Below w.heap.size w (w7.alloc (.cells #[.func (.func 23) #[.pointer (some ⟨lk, 0, none⟩)] #[], .func (.func 24) #[.pointer (some ⟨lk, 0, none⟩)] #[], .func (.func 25) #[.pointer (some ⟨lk, 0, none⟩)] #[], .func (.func 26) #[.pointer (some ⟨lk, 0, none⟩)] #[]] 1))) := HE7.out.trans ((below_box w7 _).mono HE7.out.size)
  have HW9 : Hid (lk + 1 <= (w7.alloc (.cells #[.func (.func 23) #[.pointer (some ⟨lk, 0, none⟩)] #[], .func (.func 24) #[.pointer (some ⟨lk, 0, none⟩)] #[], .func (.func 25) #[.pointer (some ⟨lk, 0, none⟩)] #[], .func (.func 26) #[.pointer (some ⟨lk, 0, none⟩)] #[]] 1)).heap.size) := by have h1 := HLS.out.2; have h2 := HB8.out.size; show _ <= _; omega
  generalize (w7.alloc (.cells #[.func (.func 23) #[.pointer (some ⟨lk, 0, none⟩)] #[], .func (.func 24) #[.pointer (some ⟨lk, 0, none⟩)] #[], .func (.func 25) #[.pointer (some ⟨lk, 0, none⟩)] #[], .func (.func 26) #[.pointer (some ⟨lk, 0, none⟩)] #[]] 1)) = w8 at *
  go_loopw [58] (fun vi wr => ∃ j : Nat, j <= 4 /\ vi = .int .i64 (j : Int) /\ ∃ fv F aa ac AA, Hid (F = fS j) /\ Hid (AA = aS j) /\ Hid (j = 0 -> fv = .slice none 0 0) /\ Hid (j <= 1 -> aa = none /\ ac = 0) /\ Hid (LkAt wr lk x R (.slice a6 n c6) (.slice (some ⟨g, subO o cap fi, none⟩) n (cap - fi)) fv (.slice aa AA.length ac)) /\ Hid (wr.ownsRow (lk + 1) 67 2 fv F.length (cellsF F)) /\ Hid (wr.ownsRow (lk + 1) 106 3 (.slice aa AA.length ac) AA.length (cellsL AA)) /\ Hid (wr.heap[w7.heap.size]? = some (.cells #[.func (.func 23) #[.pointer (some ⟨lk, 0, none⟩)] #[], .func (.func 24) #[.pointer (some ⟨lk, 0, none⟩)] #[], .func (.func 25) #[.pointer (some ⟨lk, 0, none⟩)] #[], .func (.func 26) #[.pointer (some ⟨lk, 0, none⟩)] #[]] 1 (0, 0))) /\ Hid (Below lk w7 wr) /\ Hid (Below w.heap.size w wr) /\ Hid (lk + 1 <= wr.heap.size)) (fun vi _ => 4 - (intOf vi).toNat)
  case atStart => exact ⟨0, by omega, rfl, _, [], none, 0, [], HF0.out.symm, HA0.out.symm, fun _ => rfl, fun _ => ⟨rfl, rfl⟩, HL8.out, World.ownsRow_nil _ _ _ _, World.ownsRow_nil _ _ _ _, HF8.out, HB8.out, HE8.out, HW9.out⟩
  case round =>
   clear HF8 HL8 HB8 HE8 HL7 HE7 HW9 HF0 HA0
   obtain ⟨j, hj4, rfl, fv, F, aa, ac, AA, hF, hAA, hnil, hnia, hlk, hown, howa, hf, hbel, hbw, hsz⟩ := hrel
   by_cases hlt : j < 4
   ·have hd : decide ((j : Int) < 4) = true := by simp; omega
    have dl : (j : Int) < 4 := by omega
    have dk0 : ¬ (j : Int) < 0 := by omega
    have ek : IntKind.i64.wrap ((j : Int) + 1) = (j : Int) + 1 := IntWalk.i64_in _ (by omega)
    have hc : j = 0 \/ j = 1 \/ j = 2 \/ j = 3 := by omega
    have HLEN : Hid ((L.drop fi).length = n) := by show _ = _; rw [List.length_drop, HL.out]; have := HKS.out; omega
    clear hj4 hlt
    rcases hc with hj | hj | hj | hj
    ·have cc : wr.cell? ⟨w7.heap.size, j, none⟩ = some (.func (.func 23) #[.pointer (some ⟨lk, 0, none⟩)] #[]) := by rw [cells_at hf.out j, hj]; rfl
     have HJ := Lib.hid hj
     have HC := Lib.hid (lbytes3_c lk x R HMF.out.1 a6 n c6 (some ⟨g, subO o cap fi, none⟩) (cap - fi) (.slice aa AA.length ac) P HMF.out.2.2.1 HKS.out.2.1 HMF.out.2.2.2.1 HMF.out.2.2.2.2 (L.drop fi) HLEN.out (fun l hl => H256.out l (List.mem_of_mem_drop hl)) wr (by have := hlk.out; rw [hnil.out hj] at this; exact this) (fun w' h => HP7.out w' (hbel.out.trans h)) (fun w' h => HQ7.out w' (hbel.out.trans h)))
     clear hj
     go_wp2_with fail
     refine HC.out.mono ?_
     rintro e w9 ⟨⟨u, rfl⟩, fv9, hl9, ho9, hb9, hs9⟩
     have HF9 := Lib.hid ((hs9 _ (lt_of_block hf.out) (by have := HLS.out; omega)).trans hf.out)
     have HL9 := Lib.hid hl9
     have HO9 := Lib.hid (own_mono ho9 (show lk + 1 <= wr.heap.size from hsz.out))
     have HA9 := Lib.hid (own_keep howa.out (fun q hq => hs9 q (own_lt howa.out hq) (by have := own_base howa.out q hq; omega)))
     have HB9 : Hid (Below lk w7 w9) := hbel.out.trans hb9
     have HE9 : Hid (Below w.heap.size w w9) := hbw.out.trans (hb9.mono HLS.out.1)
     have HS9 : Hid (lk + 1 <= w9.heap.size) := Nat.le_trans hsz.out hb9.size
     clear hl9 ho9 hb9 hs9 cc
     go_wp2
     go_roundw
     case rel => exact ⟨j + 1, by have := HJ.out; omega, by go_num, fv9, _, aa, ac, AA, by show _ = _; rw [HJ.out, HFS.out.1], by show _ = _; rw [hAA.out, HJ.out, HAS.out.1, HAS.out.2.1], fun h => by omega, fun h => hnia.out (by have := HJ.out; omega), HL9.out, HO9.out, HA9.out, HF9.out, HB9.out, HE9.out, HS9.out⟩
     case measure => simp [intOf]; have := HJ.out; omega
    ·have cc : wr.cell? ⟨w7.heap.size, j, none⟩ = some (.func (.func 24) #[.pointer (some ⟨lk, 0, none⟩)] #[]) := by rw [cells_at hf.out j, hj]; rfl
     have HJ := Lib.hid hj
     have HNA : Hid (AA = []) := by show _ = _; rw [hAA.out, hj, HAS.out.2.1]
     have HC := Lib.hid (lfind3_c lk x R HMF.out.1 a6 n c6 (some ⟨g, subO o cap fi, none⟩) (cap - fi) fv P HMF.out.2.2.1 HKS.out.2.1 (L.drop fi) HLEN.out (fun l hl => H256.out l (List.mem_of_mem_drop hl)) wr (by have := hlk.out; rw [HNA.out, (hnia.out (by omega)).1, (hnia.out (by omega)).2] at this; exact this) (fun w' h => HP7.out w' (hbel.out.trans h)) (fun w' h => HQ7.out w' (hbel.out.trans h)))
     clear hj
     go_wp2_with fail
     refine HC.out.mono ?_
     rintro e w9 ⟨⟨u, rfl⟩, aa9, ac9, hl9, ho9, hb9, hs9⟩
     have HF9 := Lib.hid ((hs9 _ (lt_of_block hf.out) (by have := HLS.out; omega)).trans hf.out)
     have HL9 := Lib.hid hl9
     have HA9 := Lib.hid (own_mono ho9 (show lk + 1 <= wr.heap.size from hsz.out))
     have HO9 := Lib.hid (own_keep hown.out (fun q hq => hs9 q (own_lt hown.out hq) (by have := own_base hown.out q hq; omega)))
     have HB9 : Hid (Below lk w7 w9) := hbel.out.trans hb9
     have HE9 : Hid (Below w.heap.size w w9) := hbw.out.trans (hb9.mono HLS.out.1)
     have HS9 : Hid (lk + 1 <= w9.heap.size) := Nat.le_trans hsz.out hb9.size
     clear hl9 ho9 hb9 hs9 cc
     go_wp2
     go_roundw
     case rel => exact ⟨j + 1, by have := HJ.out; omega, by go_num, fv, F, aa9, ac9, _, by show _ = _; rw [hF.out, HJ.out, HFS.out.1, HFS.out.2.1], by show _ = _; rw [HJ.out, HAS.out.2.2.1], fun h => by omega, fun h => by have := HJ.out; omega, HL9.out, HO9.out, HA9.out, HF9.out, HB9.out, HE9.out, HS9.out⟩
     case measure => simp [intOf]; have := HJ.out; omega
    ·have cc : wr.cell? ⟨w7.heap.size, j, none⟩ = some (.func (.func 25) #[.pointer (some ⟨lk, 0, none⟩)] #[]) := by rw [cells_at hf.out j, hj]; rfl
     have HJ := Lib.hid hj
     have HA2 : Hid (AA = objsK P (L.drop fi) n) := by show _ = _; rw [hAA.out, hj, HAS.out.2.2.1]
     have HF2 : Hid (F = bysK P (L.drop fi) n) := by show _ = _; rw [hF.out, hj, HFS.out.2.1]
     have HC := Lib.hid (lserials3_c lk x R HMF.out.1 _ _ fv aa AA.length ac AA rfl (by rw [HA2.out]; have := objsK_len P (L.drop fi) n; have := HKS.out.2.1; omega) F.length F (by rw [HF2.out]; have := bysK_len P (L.drop fi) n; have := HKS.out.2.1; omega) wr hlk.out hown.out howa.out w7.heap.size _ _ HTT.out (by have := HLS.out; omega) hf.out)
     clear hj
     go_wp2_with fail
     refine HC.out.mono ?_
     rintro e w9 ⟨⟨u, rfl⟩, fv9, hl9, ho9, ha9, hb9, ht9⟩
     have HF9 := Lib.hid ht9
     rw [<- List.length_append] at ho9
     have HL9 := Lib.hid hl9
     have HA9 := Lib.hid ha9
     have HO9 := Lib.hid ho9
     have HB9 : Hid (Below lk w7 w9) := hbel.out.trans hb9
     have HE9 : Hid (Below w.heap.size w w9) := hbw.out.trans (hb9.mono HLS.out.1)
     have HS9 : Hid (lk + 1 <= w9.heap.size) := Nat.le_trans hsz.out hb9.size
     clear hl9 ho9 ha9 hb9 ht9 cc
     go_wp2
     go_roundw
     case rel => exact ⟨j + 1, by have := HJ.out; omega, by go_num, fv9, _, aa, ac, AA, by show _ = _; rw [HF2.out, HJ.out, HFS.out.2.2.1, HA2.out], by show _ = _; rw [HA2.out, HJ.out, HAS.out.2.2.2.1], fun h => by omega, fun h => by have := HJ.out; omega, HL9.out, HO9.out, HA9.out, HF9.out, HB9.out, HE9.out, HS9.out⟩
     case measure => simp [intOf]; have := HJ.out; omega
    ·have cc : wr.cell? ⟨w7.heap.size, j, none⟩ = some (.func (.func 26) #[.pointer (some ⟨lk, 0, none⟩)] #[]) := by rw [cells_at hf.out j, hj]; rfl
     have HJ := Lib.hid hj
     have HA2 : Hid (AA = objsK P (L.drop fi) n) := by show _ = _; rw [hAA.out, hj, HAS.out.2.2.2.1]
     have HF2 : Hid (F = bysK P (L.drop fi) n ++ sersK (objsK P (L.drop fi) n) x (objsK P (L.drop fi) n).length) := by show _ = _; rw [hF.out, hj, HFS.out.2.2.1]
     have HC := Lib.hid (lroots3_c lk x R HMF.out.1 HMF.out.2.1 _ _ fv aa AA.length ac AA rfl (by rw [HA2.out]; have := objsK_len P (L.drop fi) n; have := HKS.out.2.1; omega) F.length F (by rw [HF2.out, List.length_append]; have := bysK_len P (L.drop fi) n; have := objsK_len P (L.drop fi) n; have := sersK_len (objsK P (L.drop fi) n) x (objsK P (L.drop fi) n).length; have := HKS.out.2.1; omega) wr hlk.out hown.out howa.out w7.heap.size _ _ HTT.out (by have := HLS.out; omega) hf.out)
     clear hj
     go_wp2_with fail
     refine HC.out.mono ?_
     rintro e w9 ⟨⟨u, rfl⟩, fv9, hl9, ho9, ha9, hb9, ht9⟩
     have HF9 := Lib.hid ht9
     have HA9 := Lib.hid ha9
     rw [<- List.length_append] at ho9
     have HL9 := Lib.hid hl9
     have HO9 := Lib.hid ho9
     have HB9 : Hid (Below lk w7 w9) := hbel.out.trans hb9
     have HE9 : Hid (Below w.heap.size w w9) := hbw.out.trans (hb9.mono HLS.out.1)
     have HS9 : Hid (lk + 1 <= w9.heap.size) := Nat.le_trans hsz.out hb9.size
     clear hl9 ho9 ha9 hb9 ht9 cc
     go_wp2
     go_roundw
     case rel => exact ⟨j + 1, by have := HJ.out; omega, by go_num, fv9, _, aa, ac, AA, by show _ = _; rw [HF2.out, HJ.out, HFS.out.2.2.2.1, HA2.out], by show _ = _; rw [HA2.out, HJ.out, HAS.out.2.2.2.2], fun h => by omega, fun h => by have := HJ.out; omega, HL9.out, HO9.out, HA9.out, HF9.out, HB9.out, HE9.out, HS9.out⟩
     case measure => simp [intOf]; have := HJ.out; omega
   ·have hj : j = 4 := by omega
    subst hj
    have hF4 : F = faultsK n L := by rw [hF.out, HFS.out.2.2.2.1, HFK.out]
    have c9 := (cells_at hlk.out 19).trans (lkA_19 HMF.out.1 _ _ _ _)
    have hown4 : wr.ownsRow w.heap.size 67 2 fv (faultsK n L).length (cellsF (faultsK n L)) := by
     rw [<- hF4]; exact own_mono hown.out (by have := HLS.out; omega)
    have HO4 := Lib.hid hown4
    clear hF4 hown4 hj4 hlt
    go_wp2
    go_ret2
    exact ⟨fv, rfl, HO4.out, hbw.out⟩
 ·intro vs w5 hv hk
  obtain ⟨a6, c6, v6, o6⟩ := hv 6 (by omega) (by omega)
  obtain ⟨a5, c5, v5, o5⟩ := hv 5 (by omega) (by omega)
  obtain ⟨b8, v8, hb8, f8⟩ := hv 8 (by omega) (by omega)
  rw [v6, v5, v8]
  clear hv v6 v5 v8 o5
  clear HC HS HA HX HG HG1 HG2 HG3 HG4 HE HE1 HE2 HE3 HRW HM hd
  refine wpList_store_row rfl 63 (.tmp 8) (.tmp 36) rfl b8 (mtA x R (.slice a6 n c6)) rfl rfl 63 _ f8 (by rw [meta18, mtA_size, HMF.out.1]) (by rw [mtA_size, HMF.out.1]; rfl) (mtA_one _ _ _ _ _) ?_
  have hM6 : (w5.setRow b8 (mtA x R (.slice a6 n c6))).heap[b8]? = some (.cells (mtA x R (.slice a6 n c6)) 63 (0, 0)) := setRow_heap _ _ _ _ _ _ f8
  have h46 : Below w4.heap.size w4 (w5.setRow b8 (mtA x R (.slice a6 n c6))) := below_setRow hk hb8 _
  have hK6 : ∀ q, q ≠ b8 -> (w5.setRow b8 (mtA x R (.slice a6 n c6))).heap[q]? = w5.heap[q]? := fun q hq => setRow_other _ _ _ _ hq
  generalize w5.setRow b8 (mtA x R (.slice a6 n c6)) = w6 at *
  have ho6 : w6.ownsRow w4.heap.size 100 5 (.slice a6 n c6) n (cellsP P) := own_keep o6 (fun q hq => hK6 q (by
   rintro rfl
   rcases o6.2 with ⟨h9, _⟩ | ⟨g9, cap9, cur9, e1, e2, e3, e4⟩
   ·rw [h9] at hq; cases hq
   ·rw [e1] at hq; cases hq
    rw [e3] at f8; cases f8))
  have HM6 := Lib.hid hM6
  have HP6 := Lib.hid (pgs_of_own ho6)
  have HE6 : Hid (Below w.heap.size w w6) := HE4.out.trans (h46.mono HE4.out.size)
  have HR6 : Hid (RowsAt w6 (some ⟨g, subO o cap fi, none⟩) (L.drop fi)) := (HR4.out.up h46 (Nat.le_refl _)).drop _ (by have h1 := HL.out; have h2 := HKS.out; omega)
  clear hM6 h46 hK6 ho6 o6 f8 hb8 hk HE4 HR4
  simp only [opsBP, List.getElem_toArray, List.getElem_cons_succ, List.getElem_cons_zero, List.drop_succ_cons, List.drop_zero]
  go_wp2
  refine regionBL b8 g o k cap n x fi R a6 c6 w6.heap.size w6 HM6.out HMF.out.1 (by have := HKS.out; omega) HKS.out.2.2.1 (Nat.le_refl _) ?_
  intro vs2 w7 hv2 hk2
  obtain ⟨lk, v10, hlk, f10⟩ := hv2 6 (by omega)
  rw [v10]
  clear hv2 v10
  have hqe : k - fi = n := by have := HKS.out; omega
  rw [hqe] at f10
  have HL7 := Lib.hid f10
  have HB7 : Hid (∀ w', Below lk w7 w' -> Below w6.heap.size w6 w') := fun w' h => Below.trans hk2 (h.mono hlk)
  have HP7 : Hid (∀ w', Below lk w7 w' -> PgsAt w' a6 P) := fun w' h => HP6.out.up (HB7.out w' h) (Nat.le_refl _)
  have HQ7 : Hid (∀ w', Below lk w7 w' -> RowsAt w' (some ⟨g, subO o cap fi, none⟩) (L.drop fi)) := fun w' h => HR6.out.up (HB7.out w' h) (Nat.le_refl _)
  have HE7 : Hid (Below w.heap.size w w7) := HE6.out.trans (hk2.mono HE6.out.size)
  have HLS : Hid (w.heap.size <= lk /\ lk < w7.heap.size) := ⟨by have := HE6.out.size; omega, lt_of_block f10⟩
  clear f10 hk2 hlk HM6 HP6 HE6 HR6 hqe
  go_wp2
  have HF8 : Hid ((w7.alloc (.cells #[.func (.func 23) #[.pointer (some ⟨lk, 0, none⟩)] #[], .func (.func 24) #[.pointer (some ⟨lk, 0, none⟩)] #[], .func (.func 25) #[.pointer (some ⟨lk, 0, none⟩)] #[], .func (.func 26) #[.pointer (some ⟨lk, 0, none⟩)] #[]] 1)).heap[w7.heap.size]? = some (.cells #[.func (.func 23) #[.pointer (some ⟨lk, 0, none⟩)] #[], .func (.func 24) #[.pointer (some ⟨lk, 0, none⟩)] #[], .func (.func 25) #[.pointer (some ⟨lk, 0, none⟩)] #[], .func (.func 26) #[.pointer (some ⟨lk, 0, none⟩)] #[]] 1 (0, 0))) := heap_new' _ _
  have HL8 : Hid (LkAt (w7.alloc (.cells #[.func (.func 23) #[.pointer (some ⟨lk, 0, none⟩)] #[], .func (.func 24) #[.pointer (some ⟨lk, 0, none⟩)] #[], .func (.func 25) #[.pointer (some ⟨lk, 0, none⟩)] #[], .func (.func 26) #[.pointer (some ⟨lk, 0, none⟩)] #[]] 1)) lk x R (.slice a6 n c6) (.slice (some ⟨g, subO o cap fi, none⟩) n (cap - fi)) (.slice none 0 0) (.slice none 0 0)) := (heap_old' _ _ _ HLS.out.2).trans HL7.out
  have HB8 : Hid (Below lk w7 (w7.alloc (.cells #[.func (.func 23) #[.pointer (some ⟨lk, 0, none⟩)] #[], .func (.func 24) #[.pointer (some ⟨lk, 0, none⟩)] #[], .func (.func 25) #[.pointer (some ⟨lk, 0, none⟩)] #[], .func (.func 26) #[.pointer (some ⟨lk, 0, none⟩)] #[]] 1))) := (below_box w7 _).mono (Nat.le_of_lt HLS.out.2)
  have HE8 : Hid (Below w.heap.size w (w7.alloc (.cells #[.func (.func 23) #[.pointer (some ⟨lk, 0, none⟩)] #[], .func (.func 24) #[.pointer (some ⟨lk, 0, none⟩)] #[], .func (.func 25) #[.pointer (some ⟨lk, 0, none⟩)] #[], .func (.func 26) #[.pointer (some ⟨lk, 0, none⟩)] #[]] 1))) := HE7.out.trans ((below_box w7 _).mono HE7.out.size)
  have HW9 : Hid (lk + 1 <= (w7.alloc (.cells #[.func (.func 23) #[.pointer (some ⟨lk, 0, none⟩)] #[], .func (.func 24) #[.pointer (some ⟨lk, 0, none⟩)] #[], .func (.func 25) #[.pointer (some ⟨lk, 0, none⟩)] #[], .func (.func 26) #[.pointer (some ⟨lk, 0, none⟩)] #[]] 1)).heap.size) := by have h1 := HLS.out.2; have h2 := HB8.out.size; show _ <= _; omega
  generalize (w7.alloc (.cells #[.func (.func 23) #[.pointer (some ⟨lk, 0, none⟩)] #[], .func (.func 24) #[.pointer (some ⟨lk, 0, none⟩)] #[], .func (.func 25) #[.pointer (some ⟨lk, 0, none⟩)] #[], .func (.func 26) #[.pointer (some ⟨lk, 0, none⟩)] #[]] 1)) = w8 at *
  go_loopw [58] (fun vi wr => ∃ j : Nat, j <= 4 /\ vi = .int .i64 (j : Int) /\ ∃ fv F aa ac AA, Hid (F = fS j) /\ Hid (AA = aS j) /\ Hid (j = 0 -> fv = .slice none 0 0) /\ Hid (j <= 1 -> aa = none /\ ac = 0) /\ Hid (LkAt wr lk x R (.slice a6 n c6) (.slice (some ⟨g, subO o cap fi, none⟩) n (cap - fi)) fv (.slice aa AA.length ac)) /\ Hid (wr.ownsRow (lk + 1) 67 2 fv F.length (cellsF F)) /\ Hid (wr.ownsRow (lk + 1) 106 3 (.slice aa AA.length ac) AA.length (cellsL AA)) /\ Hid (wr.heap[w7.heap.size]? = some (.cells #[.func (.func 23) #[.pointer (some ⟨lk, 0, none⟩)] #[], .func (.func 24) #[.pointer (some ⟨lk, 0, none⟩)] #[], .func (.func 25) #[.pointer (some ⟨lk, 0, none⟩)] #[], .func (.func 26) #[.pointer (some ⟨lk, 0, none⟩)] #[]] 1 (0, 0))) /\ Hid (Below lk w7 wr) /\ Hid (Below w.heap.size w wr) /\ Hid (lk + 1 <= wr.heap.size)) (fun vi _ => 4 - (intOf vi).toNat)
  case atStart => exact ⟨0, by omega, rfl, _, [], none, 0, [], HF0.out.symm, HA0.out.symm, fun _ => rfl, fun _ => ⟨rfl, rfl⟩, HL8.out, World.ownsRow_nil _ _ _ _, World.ownsRow_nil _ _ _ _, HF8.out, HB8.out, HE8.out, HW9.out⟩
  case round =>
   clear HF8 HL8 HB8 HE8 HL7 HE7 HW9 HF0 HA0
   obtain ⟨j, hj4, rfl, fv, F, aa, ac, AA, hF, hAA, hnil, hnia, hlk, hown, howa, hf, hbel, hbw, hsz⟩ := hrel
   by_cases hlt : j < 4
   ·have hd : decide ((j : Int) < 4) = true := by simp; omega
    have dl : (j : Int) < 4 := by omega
    have dk0 : ¬ (j : Int) < 0 := by omega
    have ek : IntKind.i64.wrap ((j : Int) + 1) = (j : Int) + 1 := IntWalk.i64_in _ (by omega)
    have hc : j = 0 \/ j = 1 \/ j = 2 \/ j = 3 := by omega
    have HLEN : Hid ((L.drop fi).length = n) := by show _ = _; rw [List.length_drop, HL.out]; have := HKS.out; omega
    clear hj4 hlt
    rcases hc with hj | hj | hj | hj
    ·have cc : wr.cell? ⟨w7.heap.size, j, none⟩ = some (.func (.func 23) #[.pointer (some ⟨lk, 0, none⟩)] #[]) := by rw [cells_at hf.out j, hj]; rfl
     have HJ := Lib.hid hj
     have HC := Lib.hid (lbytes3_c lk x R HMF.out.1 a6 n c6 (some ⟨g, subO o cap fi, none⟩) (cap - fi) (.slice aa AA.length ac) P HMF.out.2.2.1 HKS.out.2.1 HMF.out.2.2.2.1 HMF.out.2.2.2.2 (L.drop fi) HLEN.out (fun l hl => H256.out l (List.mem_of_mem_drop hl)) wr (by have := hlk.out; rw [hnil.out hj] at this; exact this) (fun w' h => HP7.out w' (hbel.out.trans h)) (fun w' h => HQ7.out w' (hbel.out.trans h)))
     clear hj
     go_wp2_with fail
     refine HC.out.mono ?_
     rintro e w9 ⟨⟨u, rfl⟩, fv9, hl9, ho9, hb9, hs9⟩
     have HF9 := Lib.hid ((hs9 _ (lt_of_block hf.out) (by have := HLS.out; omega)).trans hf.out)
     have HL9 := Lib.hid hl9
     have HO9 := Lib.hid (own_mono ho9 (show lk + 1 <= wr.heap.size from hsz.out))
     have HA9 := Lib.hid (own_keep howa.out (fun q hq => hs9 q (own_lt howa.out hq) (by have := own_base howa.out q hq; omega)))
     have HB9 : Hid (Below lk w7 w9) := hbel.out.trans hb9
     have HE9 : Hid (Below w.heap.size w w9) := hbw.out.trans (hb9.mono HLS.out.1)
     have HS9 : Hid (lk + 1 <= w9.heap.size) := Nat.le_trans hsz.out hb9.size
     clear hl9 ho9 hb9 hs9 cc
     go_wp2
     go_roundw
     case rel => exact ⟨j + 1, by have := HJ.out; omega, by go_num, fv9, _, aa, ac, AA, by show _ = _; rw [HJ.out, HFS.out.1], by show _ = _; rw [hAA.out, HJ.out, HAS.out.1, HAS.out.2.1], fun h => by omega, fun h => hnia.out (by have := HJ.out; omega), HL9.out, HO9.out, HA9.out, HF9.out, HB9.out, HE9.out, HS9.out⟩
     case measure => simp [intOf]; have := HJ.out; omega
    ·have cc : wr.cell? ⟨w7.heap.size, j, none⟩ = some (.func (.func 24) #[.pointer (some ⟨lk, 0, none⟩)] #[]) := by rw [cells_at hf.out j, hj]; rfl
     have HJ := Lib.hid hj
     have HNA : Hid (AA = []) := by show _ = _; rw [hAA.out, hj, HAS.out.2.1]
     have HC := Lib.hid (lfind3_c lk x R HMF.out.1 a6 n c6 (some ⟨g, subO o cap fi, none⟩) (cap - fi) fv P HMF.out.2.2.1 HKS.out.2.1 (L.drop fi) HLEN.out (fun l hl => H256.out l (List.mem_of_mem_drop hl)) wr (by have := hlk.out; rw [HNA.out, (hnia.out (by omega)).1, (hnia.out (by omega)).2] at this; exact this) (fun w' h => HP7.out w' (hbel.out.trans h)) (fun w' h => HQ7.out w' (hbel.out.trans h)))
     clear hj
     go_wp2_with fail
     refine HC.out.mono ?_
     rintro e w9 ⟨⟨u, rfl⟩, aa9, ac9, hl9, ho9, hb9, hs9⟩
     have HF9 := Lib.hid ((hs9 _ (lt_of_block hf.out) (by have := HLS.out; omega)).trans hf.out)
     have HL9 := Lib.hid hl9
     have HA9 := Lib.hid (own_mono ho9 (show lk + 1 <= wr.heap.size from hsz.out))
     have HO9 := Lib.hid (own_keep hown.out (fun q hq => hs9 q (own_lt hown.out hq) (by have := own_base hown.out q hq; omega)))
     have HB9 : Hid (Below lk w7 w9) := hbel.out.trans hb9
     have HE9 : Hid (Below w.heap.size w w9) := hbw.out.trans (hb9.mono HLS.out.1)
     have HS9 : Hid (lk + 1 <= w9.heap.size) := Nat.le_trans hsz.out hb9.size
     clear hl9 ho9 hb9 hs9 cc
     go_wp2
     go_roundw
     case rel => exact ⟨j + 1, by have := HJ.out; omega, by go_num, fv, F, aa9, ac9, _, by show _ = _; rw [hF.out, HJ.out, HFS.out.1, HFS.out.2.1], by show _ = _; rw [HJ.out, HAS.out.2.2.1], fun h => by omega, fun h => by have := HJ.out; omega, HL9.out, HO9.out, HA9.out, HF9.out, HB9.out, HE9.out, HS9.out⟩
     case measure => simp [intOf]; have := HJ.out; omega
    ·have cc : wr.cell? ⟨w7.heap.size, j, none⟩ = some (.func (.func 25) #[.pointer (some ⟨lk, 0, none⟩)] #[]) := by rw [cells_at hf.out j, hj]; rfl
     have HJ := Lib.hid hj
     have HA2 : Hid (AA = objsK P (L.drop fi) n) := by show _ = _; rw [hAA.out, hj, HAS.out.2.2.1]
     have HF2 : Hid (F = bysK P (L.drop fi) n) := by show _ = _; rw [hF.out, hj, HFS.out.2.1]
     have HC := Lib.hid (lserials3_c lk x R HMF.out.1 _ _ fv aa AA.length ac AA rfl (by rw [HA2.out]; have := objsK_len P (L.drop fi) n; have := HKS.out.2.1; omega) F.length F (by rw [HF2.out]; have := bysK_len P (L.drop fi) n; have := HKS.out.2.1; omega) wr hlk.out hown.out howa.out w7.heap.size _ _ HTT.out (by have := HLS.out; omega) hf.out)
     clear hj
     go_wp2_with fail
     refine HC.out.mono ?_
     rintro e w9 ⟨⟨u, rfl⟩, fv9, hl9, ho9, ha9, hb9, ht9⟩
     have HF9 := Lib.hid ht9
     rw [<- List.length_append] at ho9
     have HL9 := Lib.hid hl9
     have HA9 := Lib.hid ha9
     have HO9 := Lib.hid ho9
     have HB9 : Hid (Below lk w7 w9) := hbel.out.trans hb9
     have HE9 : Hid (Below w.heap.size w w9) := hbw.out.trans (hb9.mono HLS.out.1)
     have HS9 : Hid (lk + 1 <= w9.heap.size) := Nat.le_trans hsz.out hb9.size
     clear hl9 ho9 ha9 hb9 ht9 cc
     go_wp2
     go_roundw
     case rel => exact ⟨j + 1, by have := HJ.out; omega, by go_num, fv9, _, aa, ac, AA, by show _ = _; rw [HF2.out, HJ.out, HFS.out.2.2.1, HA2.out], by show _ = _; rw [HA2.out, HJ.out, HAS.out.2.2.2.1], fun h => by omega, fun h => by have := HJ.out; omega, HL9.out, HO9.out, HA9.out, HF9.out, HB9.out, HE9.out, HS9.out⟩
     case measure => simp [intOf]; have := HJ.out; omega
    ·have cc : wr.cell? ⟨w7.heap.size, j, none⟩ = some (.func (.func 26) #[.pointer (some ⟨lk, 0, none⟩)] #[]) := by rw [cells_at hf.out j, hj]; rfl
     have HJ := Lib.hid hj
     have HA2 : Hid (AA = objsK P (L.drop fi) n) := by show _ = _; rw [hAA.out, hj, HAS.out.2.2.2.1]
     have HF2 : Hid (F = bysK P (L.drop fi) n ++ sersK (objsK P (L.drop fi) n) x (objsK P (L.drop fi) n).length) := by show _ = _; rw [hF.out, hj, HFS.out.2.2.1]
     have HC := Lib.hid (lroots3_c lk x R HMF.out.1 HMF.out.2.1 _ _ fv aa AA.length ac AA rfl (by rw [HA2.out]; have := objsK_len P (L.drop fi) n; have := HKS.out.2.1; omega) F.length F (by rw [HF2.out, List.length_append]; have := bysK_len P (L.drop fi) n; have := objsK_len P (L.drop fi) n; have := sersK_len (objsK P (L.drop fi) n) x (objsK P (L.drop fi) n).length; have := HKS.out.2.1; omega) wr hlk.out hown.out howa.out w7.heap.size _ _ HTT.out (by have := HLS.out; omega) hf.out)
     clear hj
     go_wp2_with fail
     refine HC.out.mono ?_
     rintro e w9 ⟨⟨u, rfl⟩, fv9, hl9, ho9, ha9, hb9, ht9⟩
     have HF9 := Lib.hid ht9
     have HA9 := Lib.hid ha9
     rw [<- List.length_append] at ho9
     have HL9 := Lib.hid hl9
     have HO9 := Lib.hid ho9
     have HB9 : Hid (Below lk w7 w9) := hbel.out.trans hb9
     have HE9 : Hid (Below w.heap.size w w9) := hbw.out.trans (hb9.mono HLS.out.1)
     have HS9 : Hid (lk + 1 <= w9.heap.size) := Nat.le_trans hsz.out hb9.size
     clear hl9 ho9 ha9 hb9 ht9 cc
     go_wp2
     go_roundw
     case rel => exact ⟨j + 1, by have := HJ.out; omega, by go_num, fv9, _, aa, ac, AA, by show _ = _; rw [HF2.out, HJ.out, HFS.out.2.2.2.1, HA2.out], by show _ = _; rw [HA2.out, HJ.out, HAS.out.2.2.2.2], fun h => by omega, fun h => by have := HJ.out; omega, HL9.out, HO9.out, HA9.out, HF9.out, HB9.out, HE9.out, HS9.out⟩
     case measure => simp [intOf]; have := HJ.out; omega
   ·have hj : j = 4 := by omega
    subst hj
    have hF4 : F = faultsK n L := by rw [hF.out, HFS.out.2.2.2.1, HFK.out]
    have c9 := (cells_at hlk.out 19).trans (lkA_19 HMF.out.1 _ _ _ _)
    have hown4 : wr.ownsRow w.heap.size 67 2 fv (faultsK n L).length (cellsF (faultsK n L)) := by
     rw [<- hF4]; exact own_mono hown.out (by have := HLS.out; omega)
    have HO4 := Lib.hid hown4
    clear hF4 hown4 hj4 hlt
    go_wp2
    go_ret2
    exact ⟨fv, rfl, HO4.out, hbw.out⟩
theorem ftinfoR : (Tryz.prog.info? 73).map (fun i => (i.zero, i.size, i.bytes)) = some (some (.agg (ftA ⟨0, 0⟩))  , 2, 16) := by kernel_rfl
theorem fts_of_ownR {w : World} {base n : Nat} {a : Option Addr} {c : Nat} {L : List Ft} (hown : w.ownsRow base 73 2 (.slice a n c) n (cellsF L)) : FtsAt w a L := by
 intro i p hp
 have hi : i < L.length := (List.getElem?_eq_some_iff.1 hp).1
 have hn : n = L.length := by have := hown.1; rw [cellsF_len] at this; omega
 rcases hown.2 with ⟨h3, h4⟩ | ⟨g, cap, cur, h3, h4, h5, h6⟩
 ·omega
 ·cases h3
  refine ⟨g, 0, rfl, lt_of_block h5, fun j u hu => ?_⟩
  have hj : j < 2 := by have := (List.getElem?_eq_some_iff.1 hu).1; simpa [ftA] using this
  rw [Nat.zero_add, hown.cellAt (i * 2 + j) (by omega), cellsF_get L i j p hp hj]
  exact hu
/-- append of pages -/
theorem run_append_ftsR {w : World} (ty : TypeId) {base n : Nat} {v : Value} {L : List Ft} (hA : w.ownsRow base 73 2 v n (cellsF L)) {a : Option Addr} {m cap : Nat} {M : List Ft} (hm : M.length = m) (hM : FtsAt w a M) (hnil : a = none -> m = 0 /\ cap = 0) (hpl : ∀ p, a = some p -> p.spot = none) (h63 : n + m <= 1000000) (hbase : base <= w.heap.size) :
  ∃ v' w', (Builtin.append_ #[42, 42] ty #[v, .slice a m cap]).run Tryz.prog w = .ok v' w' /\ w'.ownsRow base 73 2 v' (n + m) (cellsF (L ++ M)) /\ w.grownBy w' v.ownBlock := by
 obtain ⟨i0, hi, h⟩ := Option.map_eq_some_iff.1 ftinfoR
 simp only [Prod.mk.injEq] at h
 cases a with
 | none =>
  obtain ⟨rfl, rfl⟩ := hnil rfl
  have hl : M = [] := List.length_eq_zero_iff.1 hm
  subst hl
  refine ⟨v, w, run_append_owned_none w base 42 ty 73 i0 2 Tryz.underlying42 hi v n _ hA, ?_, World.grownBy.refl w _⟩
  simpa using hA
 | some ad =>
  obtain ⟨g, o, sp⟩ := ad
  have hsp : sp = none := hpl _ rfl
  subst hsp
  obtain ⟨v', w', h4, h5, h6, _⟩ := run_append_own_at (P := Tryz.prog) w base 42 ty 73 i0 _ 2 16 Tryz.underlying42 hi h.1 h.2.1 h.2.2 rfl (by omega) v n (cellsF L) hA ⟨g, o, none⟩ m cap (cellsF M) (by rw [cellsF_len, hm])
   (fun j u hu => by rw [add_plain]; exact fts_cells (m := m) hM j u hu) (cellsF_oneCell M) (by unfold maxLen; omega) (by omega) hbase
  exact ⟨v', w', h4, by rw [cellsF_app]; exact h5, h6⟩
theorem wpList_append_ftsR {w : World} {ops : Array Oper} {rest : List Oper} {o : Oper} {A : Act} {Q : Exit -> Act -> World -> Prop} (hgd : o.guard = none) (s x : Operand)
  (ho : o.op = .call { callee := .builtin .append, args := #[s, x], argTypes := #[42, 42] }) {base n : Nat} {v : Value} {L : List Ft} (hs : A.eval s = v) (hA : w.ownsRow base 73 2 v n (cellsF L))
  {a : Option Addr} {m cap : Nat} {M : List Ft} (hx : A.eval x = .slice a m cap) (hm : M.length = m) (hM : FtsAt w a M) (hnil : a = none -> m = 0 /\ cap = 0) (hpl : ∀ p, a = some p -> p.spot = none) (h63 : n + m <= 1000000) (hbase : base <= w.heap.size)
  (h : ∀ v' w', w'.ownsRow base 73 2 v' (n + m) (cellsF (L ++ M)) -> w.grownBy w' v.ownBlock -> wpList Tryz.prog ops Q rest (A.put o.dst v') w') : wpList Tryz.prog ops Q (o :: rest) A w :=
 wpList_plain hgd fun _ hK => by
  obtain ⟨v', w', h1, h2, h3⟩ := run_append_ftsR o.type hA hm hM hnil hpl h63 hbase
  unfold Oper.wp execOp
  simp only [ho, resolve, invoke, builtin, Sem.run_bind, Sem.run_pure, Result.andThen_ok, List.map_toArray, List.map_cons, List.map_nil, hs, hx, h1]
  exact hK _ _ (h v' w' h2 h3)
theorem wpList_build_ftR {w : World} {ops : Array Oper} {rest : List Oper} {o : Oper} {A : Act} {Q : Exit -> Act -> World -> Prop} (hgd : o.guard = none) (x : Operand) (ho : o.op = .buildSlice 42 1 #[(0, x)])
  {p : Ft} (hx : A.eval x = .agg (ftA p)) (h : wpList Tryz.prog ops Q rest (A.put o.dst (.slice (some ⟨w.heap.size, 0, none⟩) 1 1)) (w.alloc (.cells (ftA p) 73))) : wpList Tryz.prog ops Q (o :: rest) A w := by
 obtain ⟨i0, hi, hh⟩ := Option.map_eq_some_iff.1 ftinfoR
 simp only [Prod.mk.injEq] at hh
 refine wpList_buildSlice hgd 42 73 1 _ ho (ftA p) i0 _ Tryz.underlying42 hi hh.1 (by rw [hh.2.1]; decide) (by rw [hh.2.1]; decide) ?_ h
 rw [hh.2.1]
 rw [show (Array.map (fun x : Nat × Operand => match x with | (i, x) => (i, A.eval x)) #[(0, x)]).toList = [(0, A.eval x)] by simp, hx]
 exact fillF_any p _ (by simp [ftA, Value.cells])
theorem plinfoR : (Tryz.prog.info? 80).map (fun i => (i.zero, i.size, i.bytes)) = some (some (.agg (plB ⟨0, 0, 0⟩)), 3, 24) := by kernel_rfl
theorem pls_of_ownR {w : World} {base n : Nat} {a : Option Addr} {c : Nat} {L : List Pl} (hown : w.ownsRow base 80 3 (.slice a n c) n (cellsL L)) : PlsAt w a L := by
 intro i p hp
 have hi : i < L.length := (List.getElem?_eq_some_iff.1 hp).1
 have hn : n = L.length := by have := hown.1; rw [cellsL_len] at this; omega
 rcases hown.2 with ⟨h3, h4⟩ | ⟨g, cap, cur, h3, h4, h5, h6⟩
 ·omega
 ·cases h3
  refine ⟨g, 0, rfl, lt_of_block h5, fun j u hu => ?_⟩
  have hj : j < 3 := by have := (List.getElem?_eq_some_iff.1 hu).1; simpa [plB] using this
  rw [Nat.zero_add, hown.cellAt (i * 3 + j) (by omega), cellsL_get L i j p hp hj]
  exact hu
/-- append of pages -/
theorem run_append_plsR {w : World} (ty : TypeId) {base n : Nat} {v : Value} {L : List Pl} (hA : w.ownsRow base 80 3 v n (cellsL L)) {a : Option Addr} {m cap : Nat} {M : List Pl} (hm : M.length = m) (hM : PlsAt w a M) (hnil : a = none -> m = 0 /\ cap = 0) (hpl : ∀ p, a = some p -> p.spot = none) (h63 : n + m <= 1000000) (hbase : base <= w.heap.size) :
  ∃ v' w', (Builtin.append_ #[76, 76] ty #[v, .slice a m cap]).run Tryz.prog w = .ok v' w' /\ w'.ownsRow base 80 3 v' (n + m) (cellsL (L ++ M)) /\ w.grownBy w' v.ownBlock := by
 obtain ⟨i0, hi, h⟩ := Option.map_eq_some_iff.1 plinfoR
 simp only [Prod.mk.injEq] at h
 cases a with
 | none =>
  obtain ⟨rfl, rfl⟩ := hnil rfl
  have hl : M = [] := List.length_eq_zero_iff.1 hm
  subst hl
  refine ⟨v, w, run_append_owned_none w base 76 ty 80 i0 3 Tryz.underlying76 hi v n _ hA, ?_, World.grownBy.refl w _⟩
  simpa using hA
 | some ad =>
  obtain ⟨g, o, sp⟩ := ad
  have hsp : sp = none := hpl _ rfl
  subst hsp
  obtain ⟨v', w', h4, h5, h6, _⟩ := run_append_own_at (P := Tryz.prog) w base 76 ty 80 i0 _ 3 24 Tryz.underlying76 hi h.1 h.2.1 h.2.2 rfl (by omega) v n (cellsL L) hA ⟨g, o, none⟩ m cap (cellsL M) (by rw [cellsL_len, hm])
   (fun j u hu => by rw [add_plain]; exact pls_cells (m := m) hM j u hu) (cellsL_oneCell M) (by unfold maxLen; omega) (by omega) hbase
  exact ⟨v', w', h4, by rw [cellsL_app]; exact h5, h6⟩
theorem wpList_append_plsR {w : World} {ops : Array Oper} {rest : List Oper} {o : Oper} {A : Act} {Q : Exit -> Act -> World -> Prop} (hgd : o.guard = none) (s x : Operand)
  (ho : o.op = .call { callee := .builtin .append, args := #[s, x], argTypes := #[76, 76] }) {base n : Nat} {v : Value} {L : List Pl} (hs : A.eval s = v) (hA : w.ownsRow base 80 3 v n (cellsL L))
  {a : Option Addr} {m cap : Nat} {M : List Pl} (hx : A.eval x = .slice a m cap) (hm : M.length = m) (hM : PlsAt w a M) (hnil : a = none -> m = 0 /\ cap = 0) (hpl : ∀ p, a = some p -> p.spot = none) (h63 : n + m <= 1000000) (hbase : base <= w.heap.size)
  (h : ∀ v' w', w'.ownsRow base 80 3 v' (n + m) (cellsL (L ++ M)) -> w.grownBy w' v.ownBlock -> wpList Tryz.prog ops Q rest (A.put o.dst v') w') : wpList Tryz.prog ops Q (o :: rest) A w :=
 wpList_plain hgd fun _ hK => by
  obtain ⟨v', w', h1, h2, h3⟩ := run_append_plsR o.type hA hm hM hnil hpl h63 hbase
  unfold Oper.wp execOp
  simp only [ho, resolve, invoke, builtin, Sem.run_bind, Sem.run_pure, Result.andThen_ok, List.map_toArray, List.map_cons, List.map_nil, hs, hx, h1]
  exact hK _ _ (h v' w' h2 h3)
theorem wpList_build_plR {w : World} {ops : Array Oper} {rest : List Oper} {o : Oper} {A : Act} {Q : Exit -> Act -> World -> Prop} (hgd : o.guard = none) (x : Operand) (ho : o.op = .buildSlice 76 1 #[(0, x)])
  {p : Pl} (hx : A.eval x = .agg (plB p)) (h : wpList Tryz.prog ops Q rest (A.put o.dst (.slice (some ⟨w.heap.size, 0, none⟩) 1 1)) (w.alloc (.cells (plB p) 80))) : wpList Tryz.prog ops Q (o :: rest) A w := by
 obtain ⟨i0, hi, hh⟩ := Option.map_eq_some_iff.1 plinfoR
 simp only [Prod.mk.injEq] at hh
 refine wpList_buildSlice hgd 76 80 1 _ ho (plB p) i0 _ Tryz.underlying76 hi hh.1 (by rw [hh.2.1]; decide) (by rw [hh.2.1]; decide) ?_ h
 rw [hh.2.1]
 rw [show (Array.map (fun x : Nat × Operand => match x with | (i, x) => (i, A.eval x)) #[(0, x)]).toList = [(0, A.eval x)] by simp, hx]
 exact fillL_any p _ (by simp [plB, Value.cells])
theorem run_subLhR (g o len cap h : Nat) (hh : h <= cap) (w : World) :
  (Instr.sliceAt 76 (.slice (some ⟨g, o, none⟩) len cap) none (some (.int .i64 (h : Int))) none).run Tryz.prog w = .ok (.slice (some ⟨g, o, none⟩) h cap) w := by
 obtain ⟨i0, hi, hz⟩ := Option.map_eq_some_iff.1 plinfoR
 have he : Tryz.prog.elem 76 = 80 := by kernel_rfl
 have hu : Tryz.prog.underlying 76 = some (.slice (Tryz.prog.elem 76)) := by rw [he]; exact Tryz.underlying76
 rw [run_sliceAt_slice (h := hu), run_slice_h (ht := hu) (h0 := by omega) (h2 := by omega)]
 rw [he, run_sizeOf (w := w) hi, show Tryz.prog.cellsOf 80 = 3 from (by kernel_rfl)]
 simp only [Result.andThen_ok, sliced, Int.toNat_natCast, Nat.zero_mul, Nat.sub_zero]
 split
 ·rfl
 ·simp only [Option.map_some]; rw [add_plain, Nat.add_zero]
theorem own_apartR {w : World} {B1 B2 n1 n2 z1 z2 : Nat} {v1 v2 : Value} {x1 x2 : List Value} {t1 t2 : TypeId} (h1 : w.ownsRow B1 t1 z1 v1 n1 x1) (h2 : w.ownsRow B2 t2 z2 v2 n2 x2) (ht : t1 ≠ t2) (q : Nat) (e2 : v2.ownBlock = some q) : v1.ownBlock ≠ some q := fun e1 => by
 rcases h1.2 with ⟨h9, _⟩ | ⟨g9, cap9, cur9, a1, a2, a3, a4⟩
 ·rw [h9] at e1; cases e1
 ·rcases h2.2 with ⟨h8, _⟩ | ⟨g8, cap8, cur8, b1, b2, b3, b4⟩
  ·rw [h8] at e2; cases e2
  ·rw [a1] at e1; rw [b1] at e2
   cases e1; cases e2
   have h7 := a3.symm.trans b3
   cases h7
   exact ht rfl
/-- a row grows, another one is kept -/
theorem own_other {w w' : World} {B1 B2 n1 n2 z1 z2 : Nat} {v1 v2 : Value} {x1 x2 : List Value} {t1 t2 : TypeId} (h1 : w.ownsRow B1 t1 z1 v1 n1 x1) (hg : w.grownBy w' v1.ownBlock) (h2 : w.ownsRow B2 t2 z2 v2 n2 x2) (ht : t1 ≠ t2) : w'.ownsRow B2 t2 z2 v2 n2 x2 :=
 own_keep h2 fun q e => hg.block q (own_lt h2 e) (fun e3 => own_apartR h1 h2 ht q e e3.symm)
def opsRB : {o : Array Oper // some o = (Tryz.f10.body.bind (Fre.findR 2))} := ⟨_, rfl⟩
theorem fitRB : Fre.fit .any opsRB.1 205 = true := by kernel_rfl
theorem sizeRB : opsRB.1.size = 11 := by kernel_rfl
theorem tailRB : Fre.lateFit .any opsRB.1 9 7 = true := by kernel_rfl
def VRB (gb g o k cap n fi : Nat) (t : Int) (L : List (List Nat)) (B : Nat) (x : Nat) (R : List Nat) (P : List Pg) (i : Nat) (v : Value) (w : World) : Prop := match i with
 | 0 => v = .agg #[.int .i64 (n : Int), .int .i64 t]
 | 1 => v = .slice (some ⟨g, o, none⟩) k cap
 | 2 => v = .int .i64 ((fi : Nat) : Int)
 | 3 => v = .slice (some ⟨g, o, none⟩) fi cap
 | 4 => ∃ a c, v = .tuple #[.agg (mtA x R (.slice a n c)), .bool true] /\ PgsAt w a P
 | 5 => ∃ a c, v = .tuple #[.agg (mtA x R (.slice a n c)), .bool true] /\ PgsAt w a P
 | 6 => ∃ a c, v = .agg (mtA x R (.slice a n c)) /\ PgsAt w a P
 | 7 => v = .bool true
 | 8 => ∃ b, v = .pointer (some ⟨b, 0, none⟩) /\ B <= b /\ w.heap[b]? = some (.cells #[.int .u64 0, .int .u64 0, .int .u64 0, .int .u64 0, .int .u64 0, .int .u64 0, .int .u64 0, .int .u64 0, .int .u64 0, .int .u64 0, .int .u64 0, .int .u64 0, .int .u64 0, .int .u64 0, .int .u64 0, .int .u64 0, .int .u64 0, .slice none 0 0] 28 (0, 0))
 | _ => True
theorem stRB_0 (gb g o k cap n fi : Nat) (t : Int) (L : List (List Nat)) (B : Nat) (x : Nat) (R : List Nat) (P : List Pg) (a0 : Act) (g92 : a0.tmps.getD 2 undef = .pointer (some ⟨gb, 0, none⟩)) (w0 : World) (h0 : w0.heap[gb]? = some (.cells #[.int .i64 (n : Int), .int .i64 t] 31 (0, 0))) (hg : geoB n t = true) (hL : L.length = k) (hfi : fi = 1 + mapsN n) (hk : fi <= k) (hcap : k <= cap) (h256 : ∀ l ∈ L, l.length = 256) (hR : RowsAt w0 (some ⟨g, o, none⟩) L) (hm : metaN n (L.take fi) = some (x, R, P)) (hB : B <= w0.heap.size) : Fre.StepB Tryz.prog opsRB.1 a0 w0 (VRB gb g o k cap n fi t L B x R P) Fre.Kept 0 := by
 intro E w hc hf hE hV hN hS o ho
 obtain rfl := Option.some.inj ho
 clear ho
 simp only [opsRB, List.getElem_toArray, List.getElem_cons_succ, List.getElem_cons_zero]
 have b2 : E (.tmp 2) = .pointer (some ⟨gb, 0, none⟩) := (hE 2 (by kernel_rfl)).trans g92
 clear g92
 have hb := (hS.block gb (lt_of_block h0)).trans h0
 have hr := run_loadVar_row w gb _ 31 #[.int .i64 (n : Int), .int .i64 t] _ _ hb Tryz.underlying31 rfl (by rw [geo2]; rfl)
 refine Fre.Does.value (v := .agg #[.int .i64 (n : Int), .int .i64 t]) (w' := w) ?_ ⟨rfl, Fre.Kept.refl _⟩
 unfold execOp
 simp only [b2, Instr.loadAt, Instr.sureAddr, Sem.run_bind, Sem.run_pure, Result.andThen_ok, hr]
theorem stRB_1 (gb g o k cap n fi : Nat) (t : Int) (L : List (List Nat)) (B : Nat) (x : Nat) (R : List Nat) (P : List Pg) (a0 : Act) (g91 : a0.tmps.getD 1 undef = .slice (some ⟨g, o, none⟩) k cap) (w0 : World) (h0 : w0.heap[gb]? = some (.cells #[.int .i64 (n : Int), .int .i64 t] 31 (0, 0))) (hg : geoB n t = true) (hL : L.length = k) (hfi : fi = 1 + mapsN n) (hk : fi <= k) (hcap : k <= cap) (h256 : ∀ l ∈ L, l.length = 256) (hR : RowsAt w0 (some ⟨g, o, none⟩) L) (hm : metaN n (L.take fi) = some (x, R, P)) (hB : B <= w0.heap.size) : Fre.StepB Tryz.prog opsRB.1 a0 w0 (VRB gb g o k cap n fi t L B x R P) Fre.Kept 1 := by
 intro E w hc hf hE hV hN hS o ho
 obtain rfl := Option.some.inj ho
 clear ho
 simp only [opsRB, List.getElem_toArray, List.getElem_cons_succ, List.getElem_cons_zero]
 have b1 : E (.tmp 1) = .slice (some ⟨g, o, none⟩) k cap := (hE 1 (by kernel_rfl)).trans g91
 clear g91
 refine Fre.Does.value (v := .slice (some ⟨g, o, none⟩) k cap) (w' := w) ?_ ⟨rfl, Fre.Kept.refl _⟩
 go_simp
theorem stRB_2 (gb g o k cap n fi : Nat) (t : Int) (L : List (List Nat)) (B : Nat) (x : Nat) (R : List Nat) (P : List Pg) (a0 : Act) (g95 : a0.tmps.getD 5 undef = .int .i64 ((fi : Nat) : Int)) (w0 : World) (h0 : w0.heap[gb]? = some (.cells #[.int .i64 (n : Int), .int .i64 t] 31 (0, 0))) (hg : geoB n t = true) (hL : L.length = k) (hfi : fi = 1 + mapsN n) (hk : fi <= k) (hcap : k <= cap) (h256 : ∀ l ∈ L, l.length = 256) (hR : RowsAt w0 (some ⟨g, o, none⟩) L) (hm : metaN n (L.take fi) = some (x, R, P)) (hB : B <= w0.heap.size) : Fre.StepB Tryz.prog opsRB.1 a0 w0 (VRB gb g o k cap n fi t L B x R P) Fre.Kept 2 := by
 intro E w hc hf hE hV hN hS o ho
 obtain rfl := Option.some.inj ho
 clear ho
 simp only [opsRB, List.getElem_toArray, List.getElem_cons_succ, List.getElem_cons_zero]
 have b5 : E (.tmp 5) = .int .i64 ((fi : Nat) : Int) := (hE 5 (by kernel_rfl)).trans g95
 clear g95
 refine Fre.Does.value (v := .int .i64 ((fi : Nat) : Int)) (w' := w) ?_ ⟨rfl, Fre.Kept.refl _⟩
 go_simp
theorem stRB_3 (gb g o k cap n fi : Nat) (t : Int) (L : List (List Nat)) (B : Nat) (x : Nat) (R : List Nat) (P : List Pg) (a0 : Act)  (w0 : World) (h0 : w0.heap[gb]? = some (.cells #[.int .i64 (n : Int), .int .i64 t] 31 (0, 0))) (hg : geoB n t = true) (hL : L.length = k) (hfi : fi = 1 + mapsN n) (hk : fi <= k) (hcap : k <= cap) (h256 : ∀ l ∈ L, l.length = 256) (hR : RowsAt w0 (some ⟨g, o, none⟩) L) (hm : metaN n (L.take fi) = some (x, R, P)) (hB : B <= w0.heap.size) : Fre.StepB Tryz.prog opsRB.1 a0 w0 (VRB gb g o k cap n fi t L B x R P) Fre.Kept 3 := by
 intro E w hc hf hE hV hN hS o ho
 obtain rfl := Option.some.inj ho
 clear ho
 simp only [opsRB, List.getElem_toArray, List.getElem_cons_succ, List.getElem_cons_zero]
 have d1 := hV 1 36 (by kernel_rfl) (by kernel_rfl)
 have d1 : E (.tmp 36) = .slice (some ⟨g, o, none⟩) k cap := d1
 have d2 := hV 2 37 (by kernel_rfl) (by kernel_rfl)
 have d2 : E (.tmp 37) = .int .i64 ((fi : Nat) : Int) := d2
 have hr := run_subRh g o k cap fi (by omega) w
 refine Fre.Does.value (v := .slice (some ⟨g, o, none⟩) fi cap) (w' := w) ?_ ⟨rfl, Fre.Kept.refl _⟩
 unfold execOp
 simp only [d1, d2, Option.map_some, Option.map_none, Sem.run_bind, hr, Result.andThen_ok]
 rfl
theorem stRB_4 (gb g o k cap n fi : Nat) (t : Int) (L : List (List Nat)) (B : Nat) (x : Nat) (R : List Nat) (P : List Pg) (a0 : Act)  (w0 : World) (h0 : w0.heap[gb]? = some (.cells #[.int .i64 (n : Int), .int .i64 t] 31 (0, 0))) (hg : geoB n t = true) (hL : L.length = k) (hfi : fi = 1 + mapsN n) (hk : fi <= k) (hcap : k <= cap) (h256 : ∀ l ∈ L, l.length = 256) (hR : RowsAt w0 (some ⟨g, o, none⟩) L) (hm : metaN n (L.take fi) = some (x, R, P)) (hB : B <= w0.heap.size) : Fre.StepB Tryz.prog opsRB.1 a0 w0 (VRB gb g o k cap n fi t L B x R P) Fre.Kept 4 := by
 intro E w hc hf hE hV hN hS o ho
 obtain rfl := Option.some.inj ho
 clear ho
 simp only [opsRB, List.getElem_toArray, List.getElem_cons_succ, List.getElem_cons_zero]
 have d0 := hV 0 35 (by kernel_rfl) (by kernel_rfl)
 have d0 : E (.tmp 35) = .agg #[.int .i64 (n : Int), .int .i64 t] := d0
 have d3 := hV 3 38 (by kernel_rfl) (by kernel_rfl)
 have d3 : E (.tmp 38) = .slice (some ⟨g, o, none⟩) fi cap := d3
 refine Fre.Does.enter (f := 27) (args := #[.agg #[.int .i64 (n : Int), .int .i64 t], .slice (some ⟨g, o, none⟩) fi cap]) (w' := w) ?_ ((rmparse_c n t hg g o fi cap (L.take fi) (by rw [List.length_take]; omega) hfi (by omega) (fun l hl => h256 l (List.mem_of_mem_take hl)) w ((hR.take _).up hS (Nat.le_refl _))).mono ?_)
 ·go_simp
 ·rintro e w' ⟨hp, hk'⟩
  unfold RMParse at hp
  rw [hm] at hp
  obtain ⟨a, c, rfl, hown⟩ := hp
  exact ⟨_, rfl, ⟨a, c, rfl, hown⟩, hk'⟩
theorem stRB_5 (gb g o k cap n fi : Nat) (t : Int) (L : List (List Nat)) (B : Nat) (x : Nat) (R : List Nat) (P : List Pg) (a0 : Act)  (w0 : World) (h0 : w0.heap[gb]? = some (.cells #[.int .i64 (n : Int), .int .i64 t] 31 (0, 0))) (hg : geoB n t = true) (hL : L.length = k) (hfi : fi = 1 + mapsN n) (hk : fi <= k) (hcap : k <= cap) (h256 : ∀ l ∈ L, l.length = 256) (hR : RowsAt w0 (some ⟨g, o, none⟩) L) (hm : metaN n (L.take fi) = some (x, R, P)) (hB : B <= w0.heap.size) : Fre.StepB Tryz.prog opsRB.1 a0 w0 (VRB gb g o k cap n fi t L B x R P) Fre.Kept 5 := by
 intro E w hc hf hE hV hN hS o ho
 obtain rfl := Option.some.inj ho
 clear ho
 simp only [opsRB, List.getElem_toArray, List.getElem_cons_succ, List.getElem_cons_zero]
 have d4 := hV 4 39 (by kernel_rfl) (by kernel_rfl)
 replace d4 : (fun v : Value => ∃ a c, v = .tuple #[.agg (mtA x R (.slice a n c)), .bool true] /\ PgsAt w a P) (E (.tmp 39)) := d4
 simp only at d4
 refine Fre.Does.value (v := E (.tmp 39)) (w' := w) ?_ ⟨d4, Fre.Kept.refl _⟩
 go_simp
theorem stRB_6 (gb g o k cap n fi : Nat) (t : Int) (L : List (List Nat)) (B : Nat) (x : Nat) (R : List Nat) (P : List Pg) (a0 : Act)  (w0 : World) (h0 : w0.heap[gb]? = some (.cells #[.int .i64 (n : Int), .int .i64 t] 31 (0, 0))) (hg : geoB n t = true) (hL : L.length = k) (hfi : fi = 1 + mapsN n) (hk : fi <= k) (hcap : k <= cap) (h256 : ∀ l ∈ L, l.length = 256) (hR : RowsAt w0 (some ⟨g, o, none⟩) L) (hm : metaN n (L.take fi) = some (x, R, P)) (hB : B <= w0.heap.size) : Fre.StepB Tryz.prog opsRB.1 a0 w0 (VRB gb g o k cap n fi t L B x R P) Fre.Kept 6 := by
 intro E w hc hf hE hV hN hS o ho
 obtain rfl := Option.some.inj ho
 clear ho
 simp only [opsRB, List.getElem_toArray, List.getElem_cons_succ, List.getElem_cons_zero]
 have d5 := hV 5 34 (by kernel_rfl) (by kernel_rfl)
 replace d5 : (fun v : Value => ∃ a c, v = .tuple #[.agg (mtA x R (.slice a n c)), .bool true] /\ PgsAt w a P) (E (.tmp 34)) := d5
 simp only at d5
 obtain ⟨a, c, e, f⟩ := d5
 refine Fre.Does.value (v := .agg (mtA x R (.slice a n c))) (w' := w) ?_ ⟨⟨a, c, rfl, f⟩, Fre.Kept.refl _⟩
 unfold execOp
 simp only [e]
 go_simp
theorem stRB_7 (gb g o k cap n fi : Nat) (t : Int) (L : List (List Nat)) (B : Nat) (x : Nat) (R : List Nat) (P : List Pg) (a0 : Act)  (w0 : World) (h0 : w0.heap[gb]? = some (.cells #[.int .i64 (n : Int), .int .i64 t] 31 (0, 0))) (hg : geoB n t = true) (hL : L.length = k) (hfi : fi = 1 + mapsN n) (hk : fi <= k) (hcap : k <= cap) (h256 : ∀ l ∈ L, l.length = 256) (hR : RowsAt w0 (some ⟨g, o, none⟩) L) (hm : metaN n (L.take fi) = some (x, R, P)) (hB : B <= w0.heap.size) : Fre.StepB Tryz.prog opsRB.1 a0 w0 (VRB gb g o k cap n fi t L B x R P) Fre.Kept 7 := by
 intro E w hc hf hE hV hN hS o ho
 obtain rfl := Option.some.inj ho
 clear ho
 simp only [opsRB, List.getElem_toArray, List.getElem_cons_succ, List.getElem_cons_zero]
 have d5 := hV 5 34 (by kernel_rfl) (by kernel_rfl)
 replace d5 : (fun v : Value => ∃ a c, v = .tuple #[.agg (mtA x R (.slice a n c)), .bool true] /\ PgsAt w a P) (E (.tmp 34)) := d5
 simp only at d5
 obtain ⟨a, c, e, f⟩ := d5
 refine Fre.Does.value (v := .bool true) (w' := w) ?_ ⟨rfl, Fre.Kept.refl _⟩
 unfold execOp
 simp only [e]
 go_simp
theorem stRB_8 (gb g o k cap n fi : Nat) (t : Int) (L : List (List Nat)) (B : Nat) (x : Nat) (R : List Nat) (P : List Pg) (a0 : Act)  (w0 : World) (h0 : w0.heap[gb]? = some (.cells #[.int .i64 (n : Int), .int .i64 t] 31 (0, 0))) (hg : geoB n t = true) (hL : L.length = k) (hfi : fi = 1 + mapsN n) (hk : fi <= k) (hcap : k <= cap) (h256 : ∀ l ∈ L, l.length = 256) (hR : RowsAt w0 (some ⟨g, o, none⟩) L) (hm : metaN n (L.take fi) = some (x, R, P)) (hB : B <= w0.heap.size) : Fre.StepB Tryz.prog opsRB.1 a0 w0 (VRB gb g o k cap n fi t L B x R P) Fre.Kept 8 := by
 intro E w hc hf hE hV hN hS o ho
 obtain rfl := Option.some.inj ho
 clear ho
 simp only [opsRB, List.getElem_toArray, List.getElem_cons_succ, List.getElem_cons_zero]
 refine Fre.Does.value (v := .pointer (some ⟨w.heap.size, 0, none⟩)) (w' := w.alloc (.cells #[.int .u64 0, .int .u64 0, .int .u64 0, .int .u64 0, .int .u64 0, .int .u64 0, .int .u64 0, .int .u64 0, .int .u64 0, .int .u64 0, .int .u64 0, .int .u64 0, .int .u64 0, .int .u64 0, .int .u64 0, .int .u64 0, .int .u64 0, .slice none 0 0] 28)) ?_ ⟨⟨_, rfl, Nat.le_trans hB hS.size, heap_new' _ _⟩, below_box _ _⟩
 go_simp
theorem kpRB (gb g o k cap n fi : Nat) (t : Int) (L : List (List Nat)) (B : Nat) (x : Nat) (R : List Nat) (P : List Pg) : ∀ j v w w', j < 9 -> VRB gb g o k cap n fi t L B x R P j v w -> Fre.Kept w w' -> VRB gb g o k cap n fi t L B x R P j v w' := by
 intro j v w w' hj h hs
 have hc : j = 0 \/ j = 1 \/ j = 2 \/ j = 3 \/ j = 4 \/ j = 5 \/ j = 6 \/ j = 7 \/ j = 8 := by omega
 rcases hc with rfl | rfl | rfl | rfl | rfl | rfl | rfl | rfl | rfl
 ·exact h
 ·exact h
 ·exact h
 ·exact h
 ·change ∃ a c, v = .tuple #[.agg (mtA x R (.slice a n c)), .bool true] /\ PgsAt w a P at h
  obtain ⟨a, c, h1, h2⟩ := h
  exact ⟨a, c, h1, h2.up hs (Nat.le_refl _)⟩
 ·change ∃ a c, v = .tuple #[.agg (mtA x R (.slice a n c)), .bool true] /\ PgsAt w a P at h
  obtain ⟨a, c, h1, h2⟩ := h
  exact ⟨a, c, h1, h2.up hs (Nat.le_refl _)⟩
 ·change ∃ a c, v = .agg (mtA x R (.slice a n c)) /\ PgsAt w a P at h
  obtain ⟨a, c, h1, h2⟩ := h
  exact ⟨a, c, h1, h2.up hs (Nat.le_refl _)⟩
 ·exact h
 ·change ∃ b, v = .pointer (some ⟨b, 0, none⟩) /\ B <= b /\ w.heap[b]? = some (.cells #[.int .u64 0, .int .u64 0, .int .u64 0, .int .u64 0, .int .u64 0, .int .u64 0, .int .u64 0, .int .u64 0, .int .u64 0, .int .u64 0, .int .u64 0, .int .u64 0, .int .u64 0, .int .u64 0, .int .u64 0, .int .u64 0, .int .u64 0, .slice none 0 0] 28 (0, 0)) at h
  obtain ⟨b, h1, h2, h3⟩ := h
  exact ⟨b, h1, h2, (hs.block _ (lt_of_block h3)).trans h3⟩
section
variable {u0 u3 u4 u6 u7 u8 u9 u10 u11 u12 u13 u14 u15 u16 u17 u18 u19 u20 u21 u22 u23 u24 u25 u26 u27 u28 u29 u30 u31 u32 u33 u34 u35 u36 u37 u38 u39 u40 u41 u42 u43 u44 u45 u46 u47 u48 u49 u50 u51 u52 u53 u54 u55 u56 u57 u58 u59 u60 u61 u62 u63 u64 u65 u66 u67 u68 u69 u70 u71 u72 u73 u74 u75 u76 u77 u78 u79 u80 u81 u82 u83 u84 u85 u86 u87 u88 u89 u90 u91 u92 u93 u94 u95 u96 u97 u98 u99 u100 u101 u102 u103 u104 u105 u106 u107 u108 u109 u110 u111 u112 u113 u114 u115 u116 u117 u118 u119 u120 u121 u122 u123 u124 u125 u126 u127 u128 u129 u130 u131 u132 u133 u134 u135 u136 u137 u138 u139 u140 u141 u142 u143 u144 u145 u146 u147 u148 u149 u150 u151 u152 u153 u154 u155 u156 u157 u158 u159 u160 u161 u162 u163 u164 u165 u166 u167 u168 u169 u170 u171 u172 u173 u174 u175 u176 u177 u178 u179 u180 u181 u182 u183 u184 u185 u186 u187 u188 u189 u190 u191 u192 u193 u194 u195 u196 u197 u198 u199 u200 u201 u202 u203 u204 : Value}
theorem finRB (gb g o k cap n fi : Nat) (t : Int) (L : List (List Nat)) (B : Nat) (x : Nat) (R : List Nat) (P : List Pg) (vs : Nat -> Value) : Fre.finT opsRB.1 vs #[u0, .slice (some ⟨g, o, none⟩) k cap, .pointer (some ⟨gb, 0, none⟩), u3, u4, .int .i64 ((fi : Nat) : Int), u6, u7, u8, u9, u10, u11, u12, u13, u14, u15, u16, u17, u18, u19, u20, u21, u22, u23, u24, u25, u26, u27, u28, u29, u30, u31, u32, u33, u34, u35, u36, u37, u38, u39, u40, u41, u42, u43, u44, u45, u46, u47, u48, u49, u50, u51, u52, u53, u54, u55, u56, u57, u58, u59, u60, u61, u62, u63, u64, u65, u66, u67, u68, u69, u70, u71, u72, u73, u74, u75, u76, u77, u78, u79, u80, u81, u82, u83, u84, u85, u86, u87, u88, u89, u90, u91, u92, u93, u94, u95, u96, u97, u98, u99, u100, u101, u102, u103, u104, u105, u106, u107, u108, u109, u110, u111, u112, u113, u114, u115, u116, u117, u118, u119, u120, u121, u122, u123, u124, u125, u126, u127, u128, u129, u130, u131, u132, u133, u134, u135, u136, u137, u138, u139, u140, u141, u142, u143, u144, u145, u146, u147, u148, u149, u150, u151, u152, u153, u154, u155, u156, u157, u158, u159, u160, u161, u162, u163, u164, u165, u166, u167, u168, u169, u170, u171, u172, u173, u174, u175, u176, u177, u178, u179, u180, u181, u182, u183, u184, u185, u186, u187, u188, u189, u190, u191, u192, u193, u194, u195, u196, u197, u198, u199, u200, u201, u202, u203, u204] 9 = #[u0, .slice (some ⟨g, o, none⟩) k cap, .pointer (some ⟨gb, 0, none⟩), u3, u4, .int .i64 ((fi : Nat) : Int), vs 8, u7, u8, u9, u10, u11, u12, u13, u14, u15, u16, u17, u18, u19, u20, u21, u22, u23, u24, u25, u26, u27, u28, u29, u30, u31, u32, u33, vs 5, vs 0, vs 1, vs 2, vs 3, vs 4, vs 6, vs 7, u42, u43, u44, u45, u46, u47, u48, u49, u50, u51, u52, u53, u54, u55, u56, u57, u58, u59, u60, u61, u62, u63, u64, u65, u66, u67, u68, u69, u70, u71, u72, u73, u74, u75, u76, u77, u78, u79, u80, u81, u82, u83, u84, u85, u86, u87, u88, u89, u90, u91, u92, u93, u94, u95, u96, u97, u98, u99, u100, u101, u102, u103, u104, u105, u106, u107, u108, u109, u110, u111, u112, u113, u114, u115, u116, u117, u118, u119, u120, u121, u122, u123, u124, u125, u126, u127, u128, u129, u130, u131, u132, u133, u134, u135, u136, u137, u138, u139, u140, u141, u142, u143, u144, u145, u146, u147, u148, u149, u150, u151, u152, u153, u154, u155, u156, u157, u158, u159, u160, u161, u162, u163, u164, u165, u166, u167, u168, u169, u170, u171, u172, u173, u174, u175, u176, u177, u178, u179, u180, u181, u182, u183, u184, u185, u186, u187, u188, u189, u190, u191, u192, u193, u194, u195, u196, u197, u198, u199, u200, u201, u202, u203, u204] := by kernel_rfl
theorem regionRB (gb g o k cap n fi : Nat) (t : Int) (L : List (List Nat)) (B : Nat) (x : Nat) (R : List Nat) (P : List Pg) (w0 : World) (h0 : w0.heap[gb]? = some (.cells #[.int .i64 (n : Int), .int .i64 t] 31 (0, 0))) (hg : geoB n t = true) (hL : L.length = k) (hfi : fi = 1 + mapsN n) (hk : fi <= k) (hcap : k <= cap) (h256 : ∀ l ∈ L, l.length = 256) (hR : RowsAt w0 (some ⟨g, o, none⟩) L) (hm : metaN n (L.take fi) = some (x, R, P)) (hB : B <= w0.heap.size) {QQ : Exit -> Act -> World -> Prop} (hQ : ∀ (vs : Nat -> Value) w, (∀ j, j < 9 -> VRB gb g o k cap n fi t L B x R P j (vs j) w) -> Fre.Kept w0 w -> wpList Tryz.prog opsRB.1 QQ (opsRB.1.toList.drop 9) ⟨#[u0, .slice (some ⟨g, o, none⟩) k cap, .pointer (some ⟨gb, 0, none⟩), u3, u4, .int .i64 ((fi : Nat) : Int), vs 8, u7, u8, u9, u10, u11, u12, u13, u14, u15, u16, u17, u18, u19, u20, u21, u22, u23, u24, u25, u26, u27, u28, u29, u30, u31, u32, u33, vs 5, vs 0, vs 1, vs 2, vs 3, vs 4, vs 6, vs 7, u42, u43, u44, u45, u46, u47, u48, u49, u50, u51, u52, u53, u54, u55, u56, u57, u58, u59, u60, u61, u62, u63, u64, u65, u66, u67, u68, u69, u70, u71, u72, u73, u74, u75, u76, u77, u78, u79, u80, u81, u82, u83, u84, u85, u86, u87, u88, u89, u90, u91, u92, u93, u94, u95, u96, u97, u98, u99, u100, u101, u102, u103, u104, u105, u106, u107, u108, u109, u110, u111, u112, u113, u114, u115, u116, u117, u118, u119, u120, u121, u122, u123, u124, u125, u126, u127, u128, u129, u130, u131, u132, u133, u134, u135, u136, u137, u138, u139, u140, u141, u142, u143, u144, u145, u146, u147, u148, u149, u150, u151, u152, u153, u154, u155, u156, u157, u158, u159, u160, u161, u162, u163, u164, u165, u166, u167, u168, u169, u170, u171, u172, u173, u174, u175, u176, u177, u178, u179, u180, u181, u182, u183, u184, u185, u186, u187, u188, u189, u190, u191, u192, u193, u194, u195, u196, u197, u198, u199, u200, u201, u202, u203, u204], []⟩ w) (hQ2 : ∀ (vs : Nat -> Value) w, (∀ j, j < 9 -> j ≠ 7 -> VRB gb g o k cap n fi t L B x R P j (vs j) w) -> Fre.Kept w0 w -> wpList Tryz.prog opsRB.1 QQ (opsRB.1[9]'(by rw [sizeRB]; omega) :: opsRB.1[7]'(by rw [sizeRB]; omega) :: opsRB.1.toList.drop 10) ⟨#[u0, .slice (some ⟨g, o, none⟩) k cap, .pointer (some ⟨gb, 0, none⟩), u3, u4, .int .i64 ((fi : Nat) : Int), vs 8, u7, u8, u9, u10, u11, u12, u13, u14, u15, u16, u17, u18, u19, u20, u21, u22, u23, u24, u25, u26, u27, u28, u29, u30, u31, u32, u33, vs 5, vs 0, vs 1, vs 2, vs 3, vs 4, vs 6, u41, u42, u43, u44, u45, u46, u47, u48, u49, u50, u51, u52, u53, u54, u55, u56, u57, u58, u59, u60, u61, u62, u63, u64, u65, u66, u67, u68, u69, u70, u71, u72, u73, u74, u75, u76, u77, u78, u79, u80, u81, u82, u83, u84, u85, u86, u87, u88, u89, u90, u91, u92, u93, u94, u95, u96, u97, u98, u99, u100, u101, u102, u103, u104, u105, u106, u107, u108, u109, u110, u111, u112, u113, u114, u115, u116, u117, u118, u119, u120, u121, u122, u123, u124, u125, u126, u127, u128, u129, u130, u131, u132, u133, u134, u135, u136, u137, u138, u139, u140, u141, u142, u143, u144, u145, u146, u147, u148, u149, u150, u151, u152, u153, u154, u155, u156, u157, u158, u159, u160, u161, u162, u163, u164, u165, u166, u167, u168, u169, u170, u171, u172, u173, u174, u175, u176, u177, u178, u179, u180, u181, u182, u183, u184, u185, u186, u187, u188, u189, u190, u191, u192, u193, u194, u195, u196, u197, u198, u199, u200, u201, u202, u203, u204], []⟩ w) : (Code.region 2 opsRB.1 true).wp Tryz.prog QQ ⟨#[u0, .slice (some ⟨g, o, none⟩) k cap, .pointer (some ⟨gb, 0, none⟩), u3, u4, .int .i64 ((fi : Nat) : Int), u6, u7, u8, u9, u10, u11, u12, u13, u14, u15, u16, u17, u18, u19, u20, u21, u22, u23, u24, u25, u26, u27, u28, u29, u30, u31, u32, u33, u34, u35, u36, u37, u38, u39, u40, u41, u42, u43, u44, u45, u46, u47, u48, u49, u50, u51, u52, u53, u54, u55, u56, u57, u58, u59, u60, u61, u62, u63, u64, u65, u66, u67, u68, u69, u70, u71, u72, u73, u74, u75, u76, u77, u78, u79, u80, u81, u82, u83, u84, u85, u86, u87, u88, u89, u90, u91, u92, u93, u94, u95, u96, u97, u98, u99, u100, u101, u102, u103, u104, u105, u106, u107, u108, u109, u110, u111, u112, u113, u114, u115, u116, u117, u118, u119, u120, u121, u122, u123, u124, u125, u126, u127, u128, u129, u130, u131, u132, u133, u134, u135, u136, u137, u138, u139, u140, u141, u142, u143, u144, u145, u146, u147, u148, u149, u150, u151, u152, u153, u154, u155, u156, u157, u158, u159, u160, u161, u162, u163, u164, u165, u166, u167, u168, u169, u170, u171, u172, u173, u174, u175, u176, u177, u178, u179, u180, u181, u182, u183, u184, u185, u186, u187, u188, u189, u190, u191, u192, u193, u194, u195, u196, u197, u198, u199, u200, u201, u202, u203, u204], []⟩ w0 := by
 refine Fre.region_late 205 9 7 (by omega) (by rw [sizeRB]; omega) (by kernel_rfl) fitRB rfl tailRB (by rw [sizeRB]; omega) (VRB gb g o k cap n fi t L B x R P) (kpRB gb g o k cap n fi t L B x R P) (fun i hi => ?_) (fun vs w h1 h2 => ?_) (fun vs w h1 h3 h2 => ?_)
 case refine_2 => show wpList _ _ _ _ ⟨Fre.finT opsRB.1 vs #[u0, .slice (some ⟨g, o, none⟩) k cap, .pointer (some ⟨gb, 0, none⟩), u3, u4, .int .i64 ((fi : Nat) : Int), u6, u7, u8, u9, u10, u11, u12, u13, u14, u15, u16, u17, u18, u19, u20, u21, u22, u23, u24, u25, u26, u27, u28, u29, u30, u31, u32, u33, u34, u35, u36, u37, u38, u39, u40, u41, u42, u43, u44, u45, u46, u47, u48, u49, u50, u51, u52, u53, u54, u55, u56, u57, u58, u59, u60, u61, u62, u63, u64, u65, u66, u67, u68, u69, u70, u71, u72, u73, u74, u75, u76, u77, u78, u79, u80, u81, u82, u83, u84, u85, u86, u87, u88, u89, u90, u91, u92, u93, u94, u95, u96, u97, u98, u99, u100, u101, u102, u103, u104, u105, u106, u107, u108, u109, u110, u111, u112, u113, u114, u115, u116, u117, u118, u119, u120, u121, u122, u123, u124, u125, u126, u127, u128, u129, u130, u131, u132, u133, u134, u135, u136, u137, u138, u139, u140, u141, u142, u143, u144, u145, u146, u147, u148, u149, u150, u151, u152, u153, u154, u155, u156, u157, u158, u159, u160, u161, u162, u163, u164, u165, u166, u167, u168, u169, u170, u171, u172, u173, u174, u175, u176, u177, u178, u179, u180, u181, u182, u183, u184, u185, u186, u187, u188, u189, u190, u191, u192, u193, u194, u195, u196, u197, u198, u199, u200, u201, u202, u203, u204] 9, []⟩ w; rw [finRB gb g o k cap n fi t L B x R P vs]; exact hQ vs w h1 h2
 case refine_3 =>
  have e3 : vs 7 = u41 := (Option.some.inj (h3 41 (by kernel_rfl))).symm
  show wpList _ _ _ _ ⟨Fre.finT opsRB.1 vs #[u0, .slice (some ⟨g, o, none⟩) k cap, .pointer (some ⟨gb, 0, none⟩), u3, u4, .int .i64 ((fi : Nat) : Int), u6, u7, u8, u9, u10, u11, u12, u13, u14, u15, u16, u17, u18, u19, u20, u21, u22, u23, u24, u25, u26, u27, u28, u29, u30, u31, u32, u33, u34, u35, u36, u37, u38, u39, u40, u41, u42, u43, u44, u45, u46, u47, u48, u49, u50, u51, u52, u53, u54, u55, u56, u57, u58, u59, u60, u61, u62, u63, u64, u65, u66, u67, u68, u69, u70, u71, u72, u73, u74, u75, u76, u77, u78, u79, u80, u81, u82, u83, u84, u85, u86, u87, u88, u89, u90, u91, u92, u93, u94, u95, u96, u97, u98, u99, u100, u101, u102, u103, u104, u105, u106, u107, u108, u109, u110, u111, u112, u113, u114, u115, u116, u117, u118, u119, u120, u121, u122, u123, u124, u125, u126, u127, u128, u129, u130, u131, u132, u133, u134, u135, u136, u137, u138, u139, u140, u141, u142, u143, u144, u145, u146, u147, u148, u149, u150, u151, u152, u153, u154, u155, u156, u157, u158, u159, u160, u161, u162, u163, u164, u165, u166, u167, u168, u169, u170, u171, u172, u173, u174, u175, u176, u177, u178, u179, u180, u181, u182, u183, u184, u185, u186, u187, u188, u189, u190, u191, u192, u193, u194, u195, u196, u197, u198, u199, u200, u201, u202, u203, u204] 9, []⟩ w; rw [finRB gb g o k cap n fi t L B x R P vs, e3]; exact hQ2 vs w h1 h2
 have hc : i = 0 \/ i = 1 \/ i = 2 \/ i = 3 \/ i = 4 \/ i = 5 \/ i = 6 \/ i = 7 \/ i = 8 := by omega
 rcases hc with rfl | rfl | rfl | rfl | rfl | rfl | rfl | rfl | rfl
 ·exact stRB_0 gb g o k cap n fi t L B x R P _ rfl w0 h0 hg hL hfi hk hcap h256 hR hm hB
 ·exact stRB_1 gb g o k cap n fi t L B x R P _ rfl w0 h0 hg hL hfi hk hcap h256 hR hm hB
 ·exact stRB_2 gb g o k cap n fi t L B x R P _ rfl w0 h0 hg hL hfi hk hcap h256 hR hm hB
 ·exact stRB_3 gb g o k cap n fi t L B x R P _  w0 h0 hg hL hfi hk hcap h256 hR hm hB
 ·exact stRB_4 gb g o k cap n fi t L B x R P _  w0 h0 hg hL hfi hk hcap h256 hR hm hB
 ·exact stRB_5 gb g o k cap n fi t L B x R P _  w0 h0 hg hL hfi hk hcap h256 hR hm hB
 ·exact stRB_6 gb g o k cap n fi t L B x R P _  w0 h0 hg hL hfi hk hcap h256 hR hm hB
 ·exact stRB_7 gb g o k cap n fi t L B x R P _  w0 h0 hg hL hfi hk hcap h256 hR hm hB
 ·exact stRB_8 gb g o k cap n fi t L B x R P _  w0 h0 hg hL hfi hk hcap h256 hR hm hB
end
def opsRN : {o : Array Oper // some o = (Tryz.f10.body.bind (Fre.findR 2))} := ⟨_, rfl⟩
theorem fitRN : Fre.fit .any opsRN.1 205 = true := by kernel_rfl
theorem sizeRN : opsRN.1.size = 11 := by kernel_rfl
theorem tailRN : Fre.lateFit .any opsRN.1 9 7 = true := by kernel_rfl
def VRN (gb g o k cap n fi : Nat) (t : Int) (L : List (List Nat)) (B : Nat) (i : Nat) (v : Value) (w : World) : Prop := match i with
 | 0 => v = .agg #[.int .i64 (n : Int), .int .i64 t]
 | 1 => v = .slice (some ⟨g, o, none⟩) k cap
 | 2 => v = .int .i64 ((fi : Nat) : Int)
 | 3 => v = .slice (some ⟨g, o, none⟩) fi cap
 | 4 => ∃ x R a m c, R.length = 16 /\ v = .tuple #[.agg (mtA x R (.slice a m c)), .bool false]
 | 5 => ∃ x R a m c, R.length = 16 /\ v = .tuple #[.agg (mtA x R (.slice a m c)), .bool false]
 | 6 => ∃ x R a m c, R.length = 16 /\ v = .agg (mtA x R (.slice a m c))
 | 7 => v = .bool false
 | 8 => ∃ b, v = .pointer (some ⟨b, 0, none⟩) /\ B <= b /\ w.heap[b]? = some (.cells #[.int .u64 0, .int .u64 0, .int .u64 0, .int .u64 0, .int .u64 0, .int .u64 0, .int .u64 0, .int .u64 0, .int .u64 0, .int .u64 0, .int .u64 0, .int .u64 0, .int .u64 0, .int .u64 0, .int .u64 0, .int .u64 0, .int .u64 0, .slice none 0 0] 28 (0, 0))
 | _ => True
theorem stRN_0 (gb g o k cap n fi : Nat) (t : Int) (L : List (List Nat)) (B : Nat) (a0 : Act) (g92 : a0.tmps.getD 2 undef = .pointer (some ⟨gb, 0, none⟩)) (w0 : World) (h0 : w0.heap[gb]? = some (.cells #[.int .i64 (n : Int), .int .i64 t] 31 (0, 0))) (hg : geoB n t = true) (hL : L.length = k) (hfi : fi = 1 + mapsN n) (hk : fi <= k) (hcap : k <= cap) (h256 : ∀ l ∈ L, l.length = 256) (hR : RowsAt w0 (some ⟨g, o, none⟩) L) (hm : metaN n (L.take fi) = none) (hB : B <= w0.heap.size) : Fre.StepB Tryz.prog opsRN.1 a0 w0 (VRN gb g o k cap n fi t L B) Fre.Kept 0 := by
 intro E w hc hf hE hV hN hS o ho
 obtain rfl := Option.some.inj ho
 clear ho
 simp only [opsRN, List.getElem_toArray, List.getElem_cons_succ, List.getElem_cons_zero]
 have b2 : E (.tmp 2) = .pointer (some ⟨gb, 0, none⟩) := (hE 2 (by kernel_rfl)).trans g92
 clear g92
 have hb := (hS.block gb (lt_of_block h0)).trans h0
 have hr := run_loadVar_row w gb _ 31 #[.int .i64 (n : Int), .int .i64 t] _ _ hb Tryz.underlying31 rfl (by rw [geo2]; rfl)
 refine Fre.Does.value (v := .agg #[.int .i64 (n : Int), .int .i64 t]) (w' := w) ?_ ⟨rfl, Fre.Kept.refl _⟩
 unfold execOp
 simp only [b2, Instr.loadAt, Instr.sureAddr, Sem.run_bind, Sem.run_pure, Result.andThen_ok, hr]
theorem stRN_1 (gb g o k cap n fi : Nat) (t : Int) (L : List (List Nat)) (B : Nat) (a0 : Act) (g91 : a0.tmps.getD 1 undef = .slice (some ⟨g, o, none⟩) k cap) (w0 : World) (h0 : w0.heap[gb]? = some (.cells #[.int .i64 (n : Int), .int .i64 t] 31 (0, 0))) (hg : geoB n t = true) (hL : L.length = k) (hfi : fi = 1 + mapsN n) (hk : fi <= k) (hcap : k <= cap) (h256 : ∀ l ∈ L, l.length = 256) (hR : RowsAt w0 (some ⟨g, o, none⟩) L) (hm : metaN n (L.take fi) = none) (hB : B <= w0.heap.size) : Fre.StepB Tryz.prog opsRN.1 a0 w0 (VRN gb g o k cap n fi t L B) Fre.Kept 1 := by
 intro E w hc hf hE hV hN hS o ho
 obtain rfl := Option.some.inj ho
 clear ho
 simp only [opsRN, List.getElem_toArray, List.getElem_cons_succ, List.getElem_cons_zero]
 have b1 : E (.tmp 1) = .slice (some ⟨g, o, none⟩) k cap := (hE 1 (by kernel_rfl)).trans g91
 clear g91
 refine Fre.Does.value (v := .slice (some ⟨g, o, none⟩) k cap) (w' := w) ?_ ⟨rfl, Fre.Kept.refl _⟩
 go_simp
theorem stRN_2 (gb g o k cap n fi : Nat) (t : Int) (L : List (List Nat)) (B : Nat) (a0 : Act) (g95 : a0.tmps.getD 5 undef = .int .i64 ((fi : Nat) : Int)) (w0 : World) (h0 : w0.heap[gb]? = some (.cells #[.int .i64 (n : Int), .int .i64 t] 31 (0, 0))) (hg : geoB n t = true) (hL : L.length = k) (hfi : fi = 1 + mapsN n) (hk : fi <= k) (hcap : k <= cap) (h256 : ∀ l ∈ L, l.length = 256) (hR : RowsAt w0 (some ⟨g, o, none⟩) L) (hm : metaN n (L.take fi) = none) (hB : B <= w0.heap.size) : Fre.StepB Tryz.prog opsRN.1 a0 w0 (VRN gb g o k cap n fi t L B) Fre.Kept 2 := by
 intro E w hc hf hE hV hN hS o ho
 obtain rfl := Option.some.inj ho
 clear ho
 simp only [opsRN, List.getElem_toArray, List.getElem_cons_succ, List.getElem_cons_zero]
 have b5 : E (.tmp 5) = .int .i64 ((fi : Nat) : Int) := (hE 5 (by kernel_rfl)).trans g95
 clear g95
 refine Fre.Does.value (v := .int .i64 ((fi : Nat) : Int)) (w' := w) ?_ ⟨rfl, Fre.Kept.refl _⟩
 go_simp
theorem stRN_3 (gb g o k cap n fi : Nat) (t : Int) (L : List (List Nat)) (B : Nat) (a0 : Act)  (w0 : World) (h0 : w0.heap[gb]? = some (.cells #[.int .i64 (n : Int), .int .i64 t] 31 (0, 0))) (hg : geoB n t = true) (hL : L.length = k) (hfi : fi = 1 + mapsN n) (hk : fi <= k) (hcap : k <= cap) (h256 : ∀ l ∈ L, l.length = 256) (hR : RowsAt w0 (some ⟨g, o, none⟩) L) (hm : metaN n (L.take fi) = none) (hB : B <= w0.heap.size) : Fre.StepB Tryz.prog opsRN.1 a0 w0 (VRN gb g o k cap n fi t L B) Fre.Kept 3 := by
 intro E w hc hf hE hV hN hS o ho
 obtain rfl := Option.some.inj ho
 clear ho
 simp only [opsRN, List.getElem_toArray, List.getElem_cons_succ, List.getElem_cons_zero]
 have d1 := hV 1 36 (by kernel_rfl) (by kernel_rfl)
 have d1 : E (.tmp 36) = .slice (some ⟨g, o, none⟩) k cap := d1
 have d2 := hV 2 37 (by kernel_rfl) (by kernel_rfl)
 have d2 : E (.tmp 37) = .int .i64 ((fi : Nat) : Int) := d2
 have hr := run_subRh g o k cap fi (by omega) w
 refine Fre.Does.value (v := .slice (some ⟨g, o, none⟩) fi cap) (w' := w) ?_ ⟨rfl, Fre.Kept.refl _⟩
 unfold execOp
 simp only [d1, d2, Option.map_some, Option.map_none, Sem.run_bind, hr, Result.andThen_ok]
 rfl
theorem stRN_4 (gb g o k cap n fi : Nat) (t : Int) (L : List (List Nat)) (B : Nat) (a0 : Act)  (w0 : World) (h0 : w0.heap[gb]? = some (.cells #[.int .i64 (n : Int), .int .i64 t] 31 (0, 0))) (hg : geoB n t = true) (hL : L.length = k) (hfi : fi = 1 + mapsN n) (hk : fi <= k) (hcap : k <= cap) (h256 : ∀ l ∈ L, l.length = 256) (hR : RowsAt w0 (some ⟨g, o, none⟩) L) (hm : metaN n (L.take fi) = none) (hB : B <= w0.heap.size) : Fre.StepB Tryz.prog opsRN.1 a0 w0 (VRN gb g o k cap n fi t L B) Fre.Kept 4 := by
 intro E w hc hf hE hV hN hS o ho
 obtain rfl := Option.some.inj ho
 clear ho
 simp only [opsRN, List.getElem_toArray, List.getElem_cons_succ, List.getElem_cons_zero]
 have d0 := hV 0 35 (by kernel_rfl) (by kernel_rfl)
 have d0 : E (.tmp 35) = .agg #[.int .i64 (n : Int), .int .i64 t] := d0
 have d3 := hV 3 38 (by kernel_rfl) (by kernel_rfl)
 have d3 : E (.tmp 38) = .slice (some ⟨g, o, none⟩) fi cap := d3
 refine Fre.Does.enter (f := 27) (args := #[.agg #[.int .i64 (n : Int), .int .i64 t], .slice (some ⟨g, o, none⟩) fi cap]) (w' := w) ?_ ((rmparse_c n t hg g o fi cap (L.take fi) (by rw [List.length_take]; omega) hfi (by omega) (fun l hl => h256 l (List.mem_of_mem_take hl)) w ((hR.take _).up hS (Nat.le_refl _))).mono ?_)
 ·go_simp
 ·rintro e w' ⟨hp, hk'⟩
  unfold RMParse at hp
  rw [hm] at hp
  obtain ⟨x, R, a, m, c, h16, rfl⟩ := hp
  exact ⟨_, rfl, ⟨x, R, a, m, c, h16, rfl⟩, hk'⟩
theorem stRN_5 (gb g o k cap n fi : Nat) (t : Int) (L : List (List Nat)) (B : Nat) (a0 : Act)  (w0 : World) (h0 : w0.heap[gb]? = some (.cells #[.int .i64 (n : Int), .int .i64 t] 31 (0, 0))) (hg : geoB n t = true) (hL : L.length = k) (hfi : fi = 1 + mapsN n) (hk : fi <= k) (hcap : k <= cap) (h256 : ∀ l ∈ L, l.length = 256) (hR : RowsAt w0 (some ⟨g, o, none⟩) L) (hm : metaN n (L.take fi) = none) (hB : B <= w0.heap.size) : Fre.StepB Tryz.prog opsRN.1 a0 w0 (VRN gb g o k cap n fi t L B) Fre.Kept 5 := by
 intro E w hc hf hE hV hN hS o ho
 obtain rfl := Option.some.inj ho
 clear ho
 simp only [opsRN, List.getElem_toArray, List.getElem_cons_succ, List.getElem_cons_zero]
 have d4 := hV 4 39 (by kernel_rfl) (by kernel_rfl)
 replace d4 : (fun v : Value => ∃ x R a m c, R.length = 16 /\ v = .tuple #[.agg (mtA x R (.slice a m c)), .bool false]) (E (.tmp 39)) := d4
 simp only at d4
 refine Fre.Does.value (v := E (.tmp 39)) (w' := w) ?_ ⟨d4, Fre.Kept.refl _⟩
 go_simp
theorem stRN_6 (gb g o k cap n fi : Nat) (t : Int) (L : List (List Nat)) (B : Nat) (a0 : Act)  (w0 : World) (h0 : w0.heap[gb]? = some (.cells #[.int .i64 (n : Int), .int .i64 t] 31 (0, 0))) (hg : geoB n t = true) (hL : L.length = k) (hfi : fi = 1 + mapsN n) (hk : fi <= k) (hcap : k <= cap) (h256 : ∀ l ∈ L, l.length = 256) (hR : RowsAt w0 (some ⟨g, o, none⟩) L) (hm : metaN n (L.take fi) = none) (hB : B <= w0.heap.size) : Fre.StepB Tryz.prog opsRN.1 a0 w0 (VRN gb g o k cap n fi t L B) Fre.Kept 6 := by
 intro E w hc hf hE hV hN hS o ho
 obtain rfl := Option.some.inj ho
 clear ho
 simp only [opsRN, List.getElem_toArray, List.getElem_cons_succ, List.getElem_cons_zero]
 have d5 := hV 5 34 (by kernel_rfl) (by kernel_rfl)
 replace d5 : (fun v : Value => ∃ x R a m c, R.length = 16 /\ v = .tuple #[.agg (mtA x R (.slice a m c)), .bool false]) (E (.tmp 34)) := d5
 simp only at d5
 obtain ⟨x, R, a, m, c, h16, e⟩ := d5
 refine Fre.Does.value (v := .agg (mtA x R (.slice a m c))) (w' := w) ?_ ⟨⟨x, R, a, m, c, h16, rfl⟩, Fre.Kept.refl _⟩
 unfold execOp
 simp only [e]
 go_simp
theorem stRN_7 (gb g o k cap n fi : Nat) (t : Int) (L : List (List Nat)) (B : Nat) (a0 : Act)  (w0 : World) (h0 : w0.heap[gb]? = some (.cells #[.int .i64 (n : Int), .int .i64 t] 31 (0, 0))) (hg : geoB n t = true) (hL : L.length = k) (hfi : fi = 1 + mapsN n) (hk : fi <= k) (hcap : k <= cap) (h256 : ∀ l ∈ L, l.length = 256) (hR : RowsAt w0 (some ⟨g, o, none⟩) L) (hm : metaN n (L.take fi) = none) (hB : B <= w0.heap.size) : Fre.StepB Tryz.prog opsRN.1 a0 w0 (VRN gb g o k cap n fi t L B) Fre.Kept 7 := by
 intro E w hc hf hE hV hN hS o ho
 obtain rfl := Option.some.inj ho
 clear ho
 simp only [opsRN, List.getElem_toArray, List.getElem_cons_succ, List.getElem_cons_zero]
 have d5 := hV 5 34 (by kernel_rfl) (by kernel_rfl)
 replace d5 : (fun v : Value => ∃ x R a m c, R.length = 16 /\ v = .tuple #[.agg (mtA x R (.slice a m c)), .bool false]) (E (.tmp 34)) := d5
 simp only at d5
 obtain ⟨x, R, a, m, c, h16, e⟩ := d5
 refine Fre.Does.value (v := .bool false) (w' := w) ?_ ⟨rfl, Fre.Kept.refl _⟩
 unfold execOp
 simp only [e]
 go_simp
theorem stRN_8 (gb g o k cap n fi : Nat) (t : Int) (L : List (List Nat)) (B : Nat) (a0 : Act)  (w0 : World) (h0 : w0.heap[gb]? = some (.cells #[.int .i64 (n : Int), .int .i64 t] 31 (0, 0))) (hg : geoB n t = true) (hL : L.length = k) (hfi : fi = 1 + mapsN n) (hk : fi <= k) (hcap : k <= cap) (h256 : ∀ l ∈ L, l.length = 256) (hR : RowsAt w0 (some ⟨g, o, none⟩) L) (hm : metaN n (L.take fi) = none) (hB : B <= w0.heap.size) : Fre.StepB Tryz.prog opsRN.1 a0 w0 (VRN gb g o k cap n fi t L B) Fre.Kept 8 := by
 intro E w hc hf hE hV hN hS o ho
 obtain rfl := Option.some.inj ho
 clear ho
 simp only [opsRN, List.getElem_toArray, List.getElem_cons_succ, List.getElem_cons_zero]
 refine Fre.Does.value (v := .pointer (some ⟨w.heap.size, 0, none⟩)) (w' := w.alloc (.cells #[.int .u64 0, .int .u64 0, .int .u64 0, .int .u64 0, .int .u64 0, .int .u64 0, .int .u64 0, .int .u64 0, .int .u64 0, .int .u64 0, .int .u64 0, .int .u64 0, .int .u64 0, .int .u64 0, .int .u64 0, .int .u64 0, .int .u64 0, .slice none 0 0] 28)) ?_ ⟨⟨_, rfl, Nat.le_trans hB hS.size, heap_new' _ _⟩, below_box _ _⟩
 go_simp
theorem kpRN (gb g o k cap n fi : Nat) (t : Int) (L : List (List Nat)) (B : Nat) : ∀ j v w w', j < 9 -> VRN gb g o k cap n fi t L B j v w -> Fre.Kept w w' -> VRN gb g o k cap n fi t L B j v w' := by
 intro j v w w' hj h hs
 have hc : j = 0 \/ j = 1 \/ j = 2 \/ j = 3 \/ j = 4 \/ j = 5 \/ j = 6 \/ j = 7 \/ j = 8 := by omega
 rcases hc with rfl | rfl | rfl | rfl | rfl | rfl | rfl | rfl | rfl
 ·exact h
 ·exact h
 ·exact h
 ·exact h
 ·change ∃ x R a m c, R.length = 16 /\ v = .tuple #[.agg (mtA x R (.slice a m c)), .bool false] at h
  exact h
 ·change ∃ x R a m c, R.length = 16 /\ v = .tuple #[.agg (mtA x R (.slice a m c)), .bool false] at h
  exact h
 ·change ∃ x R a m c, R.length = 16 /\ v = .agg (mtA x R (.slice a m c)) at h
  exact h
 ·exact h
 ·change ∃ b, v = .pointer (some ⟨b, 0, none⟩) /\ B <= b /\ w.heap[b]? = some (.cells #[.int .u64 0, .int .u64 0, .int .u64 0, .int .u64 0, .int .u64 0, .int .u64 0, .int .u64 0, .int .u64 0, .int .u64 0, .int .u64 0, .int .u64 0, .int .u64 0, .int .u64 0, .int .u64 0, .int .u64 0, .int .u64 0, .int .u64 0, .slice none 0 0] 28 (0, 0)) at h
  obtain ⟨b, h1, h2, h3⟩ := h
  exact ⟨b, h1, h2, (hs.block _ (lt_of_block h3)).trans h3⟩
section
variable {u0 u3 u4 u6 u7 u8 u9 u10 u11 u12 u13 u14 u15 u16 u17 u18 u19 u20 u21 u22 u23 u24 u25 u26 u27 u28 u29 u30 u31 u32 u33 u34 u35 u36 u37 u38 u39 u40 u41 u42 u43 u44 u45 u46 u47 u48 u49 u50 u51 u52 u53 u54 u55 u56 u57 u58 u59 u60 u61 u62 u63 u64 u65 u66 u67 u68 u69 u70 u71 u72 u73 u74 u75 u76 u77 u78 u79 u80 u81 u82 u83 u84 u85 u86 u87 u88 u89 u90 u91 u92 u93 u94 u95 u96 u97 u98 u99 u100 u101 u102 u103 u104 u105 u106 u107 u108 u109 u110 u111 u112 u113 u114 u115 u116 u117 u118 u119 u120 u121 u122 u123 u124 u125 u126 u127 u128 u129 u130 u131 u132 u133 u134 u135 u136 u137 u138 u139 u140 u141 u142 u143 u144 u145 u146 u147 u148 u149 u150 u151 u152 u153 u154 u155 u156 u157 u158 u159 u160 u161 u162 u163 u164 u165 u166 u167 u168 u169 u170 u171 u172 u173 u174 u175 u176 u177 u178 u179 u180 u181 u182 u183 u184 u185 u186 u187 u188 u189 u190 u191 u192 u193 u194 u195 u196 u197 u198 u199 u200 u201 u202 u203 u204 : Value}
theorem finRN (gb g o k cap n fi : Nat) (t : Int) (L : List (List Nat)) (B : Nat) (vs : Nat -> Value) : Fre.finT opsRN.1 vs #[u0, .slice (some ⟨g, o, none⟩) k cap, .pointer (some ⟨gb, 0, none⟩), u3, u4, .int .i64 ((fi : Nat) : Int), u6, u7, u8, u9, u10, u11, u12, u13, u14, u15, u16, u17, u18, u19, u20, u21, u22, u23, u24, u25, u26, u27, u28, u29, u30, u31, u32, u33, u34, u35, u36, u37, u38, u39, u40, u41, u42, u43, u44, u45, u46, u47, u48, u49, u50, u51, u52, u53, u54, u55, u56, u57, u58, u59, u60, u61, u62, u63, u64, u65, u66, u67, u68, u69, u70, u71, u72, u73, u74, u75, u76, u77, u78, u79, u80, u81, u82, u83, u84, u85, u86, u87, u88, u89, u90, u91, u92, u93, u94, u95, u96, u97, u98, u99, u100, u101, u102, u103, u104, u105, u106, u107, u108, u109, u110, u111, u112, u113, u114, u115, u116, u117, u118, u119, u120, u121, u122, u123, u124, u125, u126, u127, u128, u129, u130, u131, u132, u133, u134, u135, u136, u137, u138, u139, u140, u141, u142, u143, u144, u145, u146, u147, u148, u149, u150, u151, u152, u153, u154, u155, u156, u157, u158, u159, u160, u161, u162, u163, u164, u165, u166, u167, u168, u169, u170, u171, u172, u173, u174, u175, u176, u177, u178, u179, u180, u181, u182, u183, u184, u185, u186, u187, u188, u189, u190, u191, u192, u193, u194, u195, u196, u197, u198, u199, u200, u201, u202, u203, u204] 9 = #[u0, .slice (some ⟨g, o, none⟩) k cap, .pointer (some ⟨gb, 0, none⟩), u3, u4, .int .i64 ((fi : Nat) : Int), vs 8, u7, u8, u9, u10, u11, u12, u13, u14, u15, u16, u17, u18, u19, u20, u21, u22, u23, u24, u25, u26, u27, u28, u29, u30, u31, u32, u33, vs 5, vs 0, vs 1, vs 2, vs 3, vs 4, vs 6, vs 7, u42, u43, u44, u45, u46, u47, u48, u49, u50, u51, u52, u53, u54, u55, u56, u57, u58, u59, u60, u61, u62, u63, u64, u65, u66, u67, u68, u69, u70, u71, u72, u73, u74, u75, u76, u77, u78, u79, u80, u81, u82, u83, u84, u85, u86, u87, u88, u89, u90, u91, u92, u93, u94, u95, u96, u97, u98, u99, u100, u101, u102, u103, u104, u105, u106, u107, u108, u109, u110, u111, u112, u113, u114, u115, u116, u117, u118, u119, u120, u121, u122, u123, u124, u125, u126, u127, u128, u129, u130, u131, u132, u133, u134, u135, u136, u137, u138, u139, u140, u141, u142, u143, u144, u145, u146, u147, u148, u149, u150, u151, u152, u153, u154, u155, u156, u157, u158, u159, u160, u161, u162, u163, u164, u165, u166, u167, u168, u169, u170, u171, u172, u173, u174, u175, u176, u177, u178, u179, u180, u181, u182, u183, u184, u185, u186, u187, u188, u189, u190, u191, u192, u193, u194, u195, u196, u197, u198, u199, u200, u201, u202, u203, u204] := by kernel_rfl
theorem regionRN (gb g o k cap n fi : Nat) (t : Int) (L : List (List Nat)) (B : Nat) (w0 : World) (h0 : w0.heap[gb]? = some (.cells #[.int .i64 (n : Int), .int .i64 t] 31 (0, 0))) (hg : geoB n t = true) (hL : L.length = k) (hfi : fi = 1 + mapsN n) (hk : fi <= k) (hcap : k <= cap) (h256 : ∀ l ∈ L, l.length = 256) (hR : RowsAt w0 (some ⟨g, o, none⟩) L) (hm : metaN n (L.take fi) = none) (hB : B <= w0.heap.size) {QQ : Exit -> Act -> World -> Prop} (hQ : ∀ (vs : Nat -> Value) w, (∀ j, j < 9 -> VRN gb g o k cap n fi t L B j (vs j) w) -> Fre.Kept w0 w -> wpList Tryz.prog opsRN.1 QQ (opsRN.1.toList.drop 9) ⟨#[u0, .slice (some ⟨g, o, none⟩) k cap, .pointer (some ⟨gb, 0, none⟩), u3, u4, .int .i64 ((fi : Nat) : Int), vs 8, u7, u8, u9, u10, u11, u12, u13, u14, u15, u16, u17, u18, u19, u20, u21, u22, u23, u24, u25, u26, u27, u28, u29, u30, u31, u32, u33, vs 5, vs 0, vs 1, vs 2, vs 3, vs 4, vs 6, vs 7, u42, u43, u44, u45, u46, u47, u48, u49, u50, u51, u52, u53, u54, u55, u56, u57, u58, u59, u60, u61, u62, u63, u64, u65, u66, u67, u68, u69, u70, u71, u72, u73, u74, u75, u76, u77, u78, u79, u80, u81, u82, u83, u84, u85, u86, u87, u88, u89, u90, u91, u92, u93, u94, u95, u96, u97, u98, u99, u100, u101, u102, u103, u104, u105, u106, u107, u108, u109, u110, u111, u112, u113, u114, u115, u116, u117, u118, u119, u120, u121, u122, u123, u124, u125, u126, u127, u128, u129, u130, u131, u132, u133, u134, u135, u136, u137, u138, u139, u140, u141, u142, u143, u144, u145, u146, u147, u148, u149, u150, u151, u152, u153, u154, u155, u156, u157, u158, u159, u160, u161, u162, u163, u164, u165, u166, u167, u168, u169, u170, u171, u172, u173, u174, u175, u176, u177, u178, u179, u180, u181, u182, u183, u184, u185, u186, u187, u188, u189, u190, u191, u192, u193, u194, u195, u196, u197, u198, u199, u200, u201, u202, u203, u204], []⟩ w) (hQ2 : ∀ (vs : Nat -> Value) w, (∀ j, j < 9 -> j ≠ 7 -> VRN gb g o k cap n fi t L B j (vs j) w) -> Fre.Kept w0 w -> wpList Tryz.prog opsRN.1 QQ (opsRN.1[9]'(by rw [sizeRN]; omega) :: opsRN.1[7]'(by rw [sizeRN]; omega) :: opsRN.1.toList.drop 10) ⟨#[u0, .slice (some ⟨g, o, none⟩) k cap, .pointer (some ⟨gb, 0, none⟩), u3, u4, .int .i64 ((fi : Nat) : Int), vs 8, u7, u8, u9, u10, u11, u12, u13, u14, u15, u16, u17, u18, u19, u20, u21, u22, u23, u24, u25, u26, u27, u28, u29, u30, u31, u32, u33, vs 5, vs 0, vs 1, vs 2, vs 3, vs 4, vs 6, u41, u42, u43, u44, u45, u46, u47, u48, u49, u50, u51, u52, u53, u54, u55, u56, u57, u58, u59, u60, u61, u62, u63, u64, u65, u66, u67, u68, u69, u70, u71, u72, u73, u74, u75, u76, u77, u78, u79, u80, u81, u82, u83, u84, u85, u86, u87, u88, u89, u90, u91, u92, u93, u94, u95, u96, u97, u98, u99, u100, u101, u102, u103, u104, u105, u106, u107, u108, u109, u110, u111, u112, u113, u114, u115, u116, u117, u118, u119, u120, u121, u122, u123, u124, u125, u126, u127, u128, u129, u130, u131, u132, u133, u134, u135, u136, u137, u138, u139, u140, u141, u142, u143, u144, u145, u146, u147, u148, u149, u150, u151, u152, u153, u154, u155, u156, u157, u158, u159, u160, u161, u162, u163, u164, u165, u166, u167, u168, u169, u170, u171, u172, u173, u174, u175, u176, u177, u178, u179, u180, u181, u182, u183, u184, u185, u186, u187, u188, u189, u190, u191, u192, u193, u194, u195, u196, u197, u198, u199, u200, u201, u202, u203, u204], []⟩ w) : (Code.region 2 opsRN.1 true).wp Tryz.prog QQ ⟨#[u0, .slice (some ⟨g, o, none⟩) k cap, .pointer (some ⟨gb, 0, none⟩), u3, u4, .int .i64 ((fi : Nat) : Int), u6, u7, u8, u9, u10, u11, u12, u13, u14, u15, u16, u17, u18, u19, u20, u21, u22, u23, u24, u25, u26, u27, u28, u29, u30, u31, u32, u33, u34, u35, u36, u37, u38, u39, u40, u41, u42, u43, u44, u45, u46, u47, u48, u49, u50, u51, u52, u53, u54, u55, u56, u57, u58, u59, u60, u61, u62, u63, u64, u65, u66, u67, u68, u69, u70, u71, u72, u73, u74, u75, u76, u77, u78, u79, u80, u81, u82, u83, u84, u85, u86, u87, u88, u89, u90, u91, u92, u93, u94, u95, u96, u97, u98, u99, u100, u101, u102, u103, u104, u105, u106, u107, u108, u109, u110, u111, u112, u113, u114, u115, u116, u117, u118, u119, u120, u121, u122, u123, u124, u125, u126, u127, u128, u129, u130, u131, u132, u133, u134, u135, u136, u137, u138, u139, u140, u141, u142, u143, u144, u145, u146, u147, u148, u149, u150, u151, u152, u153, u154, u155, u156, u157, u158, u159, u160, u161, u162, u163, u164, u165, u166, u167, u168, u169, u170, u171, u172, u173, u174, u175, u176, u177, u178, u179, u180, u181, u182, u183, u184, u185, u186, u187, u188, u189, u190, u191, u192, u193, u194, u195, u196, u197, u198, u199, u200, u201, u202, u203, u204], []⟩ w0 := by
 refine Fre.region_late 205 9 7 (by omega) (by rw [sizeRN]; omega) (by kernel_rfl) fitRN rfl tailRN (by rw [sizeRN]; omega) (VRN gb g o k cap n fi t L B) (kpRN gb g o k cap n fi t L B) (fun i hi => ?_) (fun vs w h1 h2 => ?_) (fun vs w h1 h3 h2 => ?_)
 case refine_2 => show wpList _ _ _ _ ⟨Fre.finT opsRN.1 vs #[u0, .slice (some ⟨g, o, none⟩) k cap, .pointer (some ⟨gb, 0, none⟩), u3, u4, .int .i64 ((fi : Nat) : Int), u6, u7, u8, u9, u10, u11, u12, u13, u14, u15, u16, u17, u18, u19, u20, u21, u22, u23, u24, u25, u26, u27, u28, u29, u30, u31, u32, u33, u34, u35, u36, u37, u38, u39, u40, u41, u42, u43, u44, u45, u46, u47, u48, u49, u50, u51, u52, u53, u54, u55, u56, u57, u58, u59, u60, u61, u62, u63, u64, u65, u66, u67, u68, u69, u70, u71, u72, u73, u74, u75, u76, u77, u78, u79, u80, u81, u82, u83, u84, u85, u86, u87, u88, u89, u90, u91, u92, u93, u94, u95, u96, u97, u98, u99, u100, u101, u102, u103, u104, u105, u106, u107, u108, u109, u110, u111, u112, u113, u114, u115, u116, u117, u118, u119, u120, u121, u122, u123, u124, u125, u126, u127, u128, u129, u130, u131, u132, u133, u134, u135, u136, u137, u138, u139, u140, u141, u142, u143, u144, u145, u146, u147, u148, u149, u150, u151, u152, u153, u154, u155, u156, u157, u158, u159, u160, u161, u162, u163, u164, u165, u166, u167, u168, u169, u170, u171, u172, u173, u174, u175, u176, u177, u178, u179, u180, u181, u182, u183, u184, u185, u186, u187, u188, u189, u190, u191, u192, u193, u194, u195, u196, u197, u198, u199, u200, u201, u202, u203, u204] 9, []⟩ w; rw [finRN gb g o k cap n fi t L B vs]; exact hQ vs w h1 h2
 case refine_3 =>
  have e3 : vs 7 = u41 := (Option.some.inj (h3 41 (by kernel_rfl))).symm
  show wpList _ _ _ _ ⟨Fre.finT opsRN.1 vs #[u0, .slice (some ⟨g, o, none⟩) k cap, .pointer (some ⟨gb, 0, none⟩), u3, u4, .int .i64 ((fi : Nat) : Int), u6, u7, u8, u9, u10, u11, u12, u13, u14, u15, u16, u17, u18, u19, u20, u21, u22, u23, u24, u25, u26, u27, u28, u29, u30, u31, u32, u33, u34, u35, u36, u37, u38, u39, u40, u41, u42, u43, u44, u45, u46, u47, u48, u49, u50, u51, u52, u53, u54, u55, u56, u57, u58, u59, u60, u61, u62, u63, u64, u65, u66, u67, u68, u69, u70, u71, u72, u73, u74, u75, u76, u77, u78, u79, u80, u81, u82, u83, u84, u85, u86, u87, u88, u89, u90, u91, u92, u93, u94, u95, u96, u97, u98, u99, u100, u101, u102, u103, u104, u105, u106, u107, u108, u109, u110, u111, u112, u113, u114, u115, u116, u117, u118, u119, u120, u121, u122, u123, u124, u125, u126, u127, u128, u129, u130, u131, u132, u133, u134, u135, u136, u137, u138, u139, u140, u141, u142, u143, u144, u145, u146, u147, u148, u149, u150, u151, u152, u153, u154, u155, u156, u157, u158, u159, u160, u161, u162, u163, u164, u165, u166, u167, u168, u169, u170, u171, u172, u173, u174, u175, u176, u177, u178, u179, u180, u181, u182, u183, u184, u185, u186, u187, u188, u189, u190, u191, u192, u193, u194, u195, u196, u197, u198, u199, u200, u201, u202, u203, u204] 9, []⟩ w; rw [finRN gb g o k cap n fi t L B vs, e3]; exact hQ2 vs w h1 h2
 have hc : i = 0 \/ i = 1 \/ i = 2 \/ i = 3 \/ i = 4 \/ i = 5 \/ i = 6 \/ i = 7 \/ i = 8 := by omega
 rcases hc with rfl | rfl | rfl | rfl | rfl | rfl | rfl | rfl | rfl
 ·exact stRN_0 gb g o k cap n fi t L B _ rfl w0 h0 hg hL hfi hk hcap h256 hR hm hB
 ·exact stRN_1 gb g o k cap n fi t L B _ rfl w0 h0 hg hL hfi hk hcap h256 hR hm hB
 ·exact stRN_2 gb g o k cap n fi t L B _ rfl w0 h0 hg hL hfi hk hcap h256 hR hm hB
 ·exact stRN_3 gb g o k cap n fi t L B _  w0 h0 hg hL hfi hk hcap h256 hR hm hB
 ·exact stRN_4 gb g o k cap n fi t L B _  w0 h0 hg hL hfi hk hcap h256 hR hm hB
 ·exact stRN_5 gb g o k cap n fi t L B _  w0 h0 hg hL hfi hk hcap h256 hR hm hB
 ·exact stRN_6 gb g o k cap n fi t L B _  w0 h0 hg hL hfi hk hcap h256 hR hm hB
 ·exact stRN_7 gb g o k cap n fi t L B _  w0 h0 hg hL hfi hk hcap h256 hR hm hB
 ·exact stRN_8 gb g o k cap n fi t L B _  w0 h0 hg hL hfi hk hcap h256 hR hm hB
end
end Go.Proofs.YtpbmjfjnmcpieaaGreat
