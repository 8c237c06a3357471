/- Texts RCm, put together by pack.py. -/
import Derived.Test.YtpbmjfjnmcpieaaGreatCBo
set_option maxRecDepth 100000
set_option maxHeartbeats 16000000
set_option linter.unusedVariables false
set_option linter.unusedSimpArgs false
namespace Go.Proofs.YtpbmjfjnmcpieaaGreat
open Go Go.RowKit
/-- a page of any numbers -/
structure Pz where
 a : Int
 b : Int
 c : Int
 d : Int
 e : Nat
def pzA (p : Pz) : Array Value := #[.int .i64 p.a, .int .i64 p.b, .int .i64 p.c, .int .i64 p.d, .int .u64 (p.e : Int)]
def PzAt (w : World) (a : Option Addr) (L : List Pz) : Prop := ∀ (i : Nat) (p : Pz), L[i]? = some p -> ∃ g o, a = some ⟨g, o, none⟩ /\ g < w.heap.size /\ w.rangeAt g (o + i * 5) (pzA p).toList
theorem PzAt.up {w w' : World} {a : Option Addr} {L : List Pz} (h : PzAt w a L) {B : Nat} (hb : Below B w w') (hB : w.heap.size <= B) : PzAt w' a L := by
 intro i p hp
 obtain ⟨g, o, h1, h2, h3⟩ := h i p hp
 exact ⟨g, o, h1, Nat.lt_of_lt_of_le h2 hb.size, fun j u hu => (hb.cell (p := ⟨g, o + i * 5 + j, none⟩) (by show g < B; omega)).trans (h3 j u hu)⟩
theorem pzA_one (p : Pz) : (pzA p).all (·.oneCell') = true := by simp [pzA, Value.oneCell']
theorem u8_nat (a : Int) : ∃ x : Nat, IntKind.u8.wrap a = (x : Int) /\ x < 256 := by
 refine ⟨(a % 256).toNat, ?_, by omega⟩
 rw [IntKind.wrap_u8]; omega
theorem u64_nat (a : Int) : ∃ x : Nat, IntKind.u64.wrap a = (x : Int) /\ x < 18446744073709551616 := by
 refine ⟨(a % 18446744073709551616).toNat, ?_, by omega⟩
 rw [IntKind.wrap_u64]; omega
theorem rpbytes_c (a0 : Option Addr) (n cap : Nat) (L : List Pz) (hn : L.length = n) (hn16 : n <= 1000) (he : ∀ p ∈ L, p.e < 18446744073709551616) (w : World) (hP : PzAt w a0 L) :
  Calls Tryz.prog 16 #[.slice a0 n cap] w fun e w' => ∃ v l, e = .returned v /\ l.length = 256 /\ (∀ x ∈ l, x < 256) /\ w'.ownsRow w.heap.size 5 1 v 256 (bA l).toList /\ Below w.heap.size w w' := by
 have HP := Lib.hid hP
 have HN := Lib.hid hn
 have HN16 := Lib.hid hn16
 have HE := Lib.hid he
 have HP2 := Lib.hid (fun q hq w => rput_c 2 q (by omega) hq w)
 have HP4 := Lib.hid (fun q hq w => rput_c 4 q (by omega) hq w)
 have HP8 := Lib.hid (fun q hq w => rput_c 8 q (by omega) hq w)
 clear hP hn hn16 he
 go_enter Tryz.func16, Tryz.ntmps16
 go_wp2
 go_loopw [3, 5, 8] (fun v3 v5 vi wr => ∃ j a m c l, vi = .int .i64 ((j : Nat) : Int) /\ v3 = .slice a m c /\ Hid (j <= n) /\ Hid (m = 16 * j /\ List.length l = m /\ ∀ x ∈ l, x < 256) /\ Hid (wr.ownsRow w.heap.size 5 1 (.slice a m c) m (bA l).toList) /\ Hid (Below w.heap.size w wr)) (fun _ _ vi _ => n - (intOf vi).toNat)
 case atStart => exact ⟨0, none, 0, 0, [], rfl, rfl, Nat.zero_le _, ⟨rfl, rfl, fun x hx => by cases hx⟩, World.ownsRow_nil _ _ _ _, Below.refl _ _⟩
 case round =>
  obtain ⟨j, a, m, c, l, rfl, rfl, hj, hm, hown, hbel⟩ := hrel
  have hjn : j <= n := hj
  by_cases hlt : j < n
  ·have hd : decide ((j : Int) < (n : Int)) = true := by simp; omega
   have dl : (j : Int) < (n : Int) := by omega
   have d0 : ¬ (j : Int) < 0 := by omega
   have ek : IntKind.i64.wrap ((j : Int) + 1) = (j : Int) + 1 := by have := HN16.out; exact IntWalk.i64_in _ (by omega)
   have hjL : j < L.length := by rw [HN.out]; exact hlt
   obtain ⟨p, hp⟩ : ∃ p, p = L[j] := ⟨_, rfl⟩
   have hget : L[j]? = some p := by rw [hp]; exact List.getElem?_eq_getElem hjL
   obtain ⟨g, o, rfl, hgl, hcell⟩ := HP.out j p hget
   have HCR : Hid (wr.rangeAt g (o + j * 5) (pzA p).toList) := fun k u hu => (hbel.out.cell (p := ⟨g, o + j * 5 + k, none⟩) hgl).trans (hcell k u hu)
   have hpe := HE.out p (by rw [hp]; exact List.getElem_mem _)
   obtain ⟨xa, ea, la⟩ := u8_nat p.a
   obtain ⟨xb, eb, lb⟩ := u8_nat p.b
   obtain ⟨xc, ec, lc⟩ := u64_nat p.c
   obtain ⟨xd, ed, ld⟩ := u64_nat p.d
   have HXC := Lib.hid (HP2.out xc lc)
   have HXD := Lib.hid (HP4.out xd ld)
   have HXE := Lib.hid (HP8.out p.e hpe)
   have HXL : Hid (∀ x ∈ [xa, xb], x < 256) := fun x hx => by rcases List.mem_cons.1 hx with rfl | hx; exact la; rcases List.mem_cons.1 hx with rfl | hx; exact lb; cases hx
   have HZP : Hid ((wr.alloc (.cells #[.int .i64 0, .int .i64 0, .int .i64 0, .int .i64 0, .int .u64 0] 78)).heap[wr.heap.size]? = some (.cells (pzA ⟨0, 0, 0, 0, 0⟩) 78 (0, 0))) := heap_new' _ _
   have HE1 : Hid (Below wr.heap.size wr (wr.alloc (.cells #[.int .i64 0, .int .i64 0, .int .i64 0, .int .i64 0, .int .u64 0] 78))) := below_box wr _
   have HJ := Lib.hid hlt
   have HM := hm
   have HMB : Hid (m + 16 <= 1000000) := by have h1 := hm.out.1; have h2 := HN16.out; show _ <= _; omega
   obtain ⟨pa, hpa⟩ : ∃ pa, pa = p.a := ⟨_, rfl⟩
   obtain ⟨pb, hpb⟩ : ∃ pb, pb = p.b := ⟨_, rfl⟩
   obtain ⟨pc, hpc⟩ : ∃ pc, pc = p.c := ⟨_, rfl⟩
   obtain ⟨pd, hpd⟩ : ∃ pd, pd = p.d := ⟨_, rfl⟩
   obtain ⟨pe, hpe2⟩ : ∃ pe, pe = p.e := ⟨_, rfl⟩
   have hpz : pzA p = #[.int .i64 pa, .int .i64 pb, .int .i64 pc, .int .i64 pd, .int .u64 (pe : Int)] := by rw [hpa, hpb, hpc, hpd, hpe2]; rfl
   have HPZ := Lib.hid hpz
   rw [<- hpa] at ea
   rw [<- hpb] at eb
   rw [<- hpc] at ec
   rw [<- hpd] at ed
   rw [<- hpe2] at HXE
   clear hp hget hgl hcell hjL hlt hjn hj hpe la lb lc ld hm hpa hpb hpc hpd hpe2 hpz
   go_wp2_with (first
    | (refine wpList_load_mid rfl 78 (.tmp 10) rfl g (o + j * 5) rfl _ _ HCR.out Tryz.underlying78 rfl (by rw [page5R]; rfl) ?_)
    | (refine wpList_store_row rfl 78 (.tmp 5) (.tmp 11) rfl wr.heap.size (pzA p) rfl rfl 78 _ HZP.out (by rw [page5R]; rfl) rfl (pzA_one _) ?_
       generalize hW1 : World.setRow _ _ _ = w1
       have HZ1 : Hid (w1.heap[wr.heap.size]? = some (.cells (pzA p) 78 (0, 0))) := (by show _ = _; rw [<- hW1]; exact setRow_heap _ _ _ _ _ _ HZP.out)
       have HE2 : Hid (Below wr.heap.size wr w1) := (by rw [<- hW1]; exact below_setRow HE1.out (Nat.le_refl _) _)
       have HZ1' := HZ1.out
       rw [HPZ.out] at HZ1'
       have c0 := (cells_at HZ1' 0).trans (show _ = some (Value.int .i64 pa) from rfl)
       have c1 := (cells_at HZ1' 1).trans (show _ = some (Value.int .i64 pb) from rfl)
       have HOb : Hid ((w1.alloc (.cells #[.int .u8 (xa : Int), .int .u8 (xb : Int)] 5)).ownsRow w.heap.size 5 1 (.slice a m c) m (bA l).toList) := World.ownsRow.alloc (own_up hown.out HE2.out) _
       have HBb : Hid (BytesAt (w1.alloc (.cells #[.int .u8 (xa : Int), .int .u8 (xb : Int)] 5)) (some ⟨w1.heap.size, 0, none⟩) 2 [xa, xb]) := bytesAt_block (l := [xa, xb]) HXL.out (heap_new' _ _)
       have HEb : Hid (Below w.heap.size w (w1.alloc (.cells #[.int .u8 (xa : Int), .int .u8 (xb : Int)] 5))) := (hbel.out.trans (HE2.out.mono hbel.out.size)).alloc (Nat.le_trans hbel.out.size HE2.out.size) _
       have HZb : Hid ((w1.alloc (.cells #[.int .u8 (xa : Int), .int .u8 (xb : Int)] 5)).heap[wr.heap.size]? = some (.cells (pzA p) 78 (0, 0))) := (heap_old' _ _ _ (lt_of_block HZ1.out)).trans HZ1.out
       clear hW1 HZ1')
    | (refine wpList_append_bytes (v := .slice a m c) (base := w.heap.size) (n := m) (m := 2) (l := [xa, xb]) rfl (.tmp 12) (.tmp 19) rfl rfl HOb.out rfl rfl HBb.out (fun h => by cases h) (by have := HMB.out; omega) HEb.out.size ?_
       intro v2 w2 ho2 hg2
       rw [bA_app] at ho2
       have HO2 := Lib.hid ho2
       have HF2 : Hid (Below w.heap.size w w2) := HEb.out.grown hg2 HEb.out.size (fun q h => (HOb.out.lt q h).1)
       have hz2 := (hg2.block _ (lt_of_block HZb.out) (fun e => by have := own_lt hown.out e.symm; omega)).trans HZb.out
       have HZ2 := Lib.hid hz2
       rw [HPZ.out] at hz2
       have k2 := (cells_at hz2 2).trans (show _ = some (Value.int .i64 pc) from rfl)
       obtain ⟨a2, f2, hv2⟩ := own_slice ho2
       subst hv2
       clear ho2 hg2 hz2 c0 c1)
    | fail)
   refine (HXC.out _).mono ?_
   rintro e w3 ⟨v3, rfl, ho3, hb3⟩
   obtain ⟨a3, f3, hv3, hB3, _, _, _, hn3, _⟩ := own_bytes (lowB_lt 2 xc) ho3
   subst hv3
   have HB3 := Lib.hid hB3
   have HNL3 := Lib.hid hn3
   have HO3 := Lib.hid (own_up HO2.out hb3)
   have HZ3 := Lib.hid ((hb3.block _ (lt_of_block HZ2.out)).trans HZ2.out)
   have HF3 : Hid (Below w.heap.size w w3) := HF2.out.trans (hb3.mono HF2.out.size)
   have HS3 : Hid (wr.heap.size < w3.heap.size) := lt_of_block HZ3.out
   clear ho3 hb3 hB3 hn3 k2
   go_wp2_with (first
    | (refine wpList_append_bytes (v := .slice a2 (m + 2) f2) (base := w.heap.size) (n := m + 2) (m := 2) (l := lowB 2 xc) rfl (.tmp 21) (.tmp 25) rfl rfl HO3.out rfl (lowB_len _ _) HB3.out HNL3.out (by have := HMB.out; omega) HF3.out.size ?_
       intro v4 w4 ho4 hg4
       rw [bA_app] at ho4
       have HO4 := Lib.hid ho4
       have HF4 : Hid (Below w.heap.size w w4) := HF3.out.grown hg4 HF3.out.size (fun q h => (HO3.out.lt q h).1)
       have hz4 : w4.heap[wr.heap.size]? = some (.cells (pzA p) 78 (0, 0)) := (hg4.block _ HS3.out (fun e => by
        have h1 := HO3.out.2
        rcases h1 with ⟨h9, _⟩ | ⟨g9, cap9, cur9, q1, q2, q3, q4⟩
        ·cases h9
        ·cases q1
         have e2 : wr.heap.size = g9 := by cases e; rfl
         have h7 := q3.symm.trans (show w3.heap[g9]? = some (.cells (pzA p) 78 (0, 0)) from by rw [<- e2]; exact HZ3.out)
         cases h7)).trans HZ3.out
       have HZ4 := Lib.hid hz4
       rw [HPZ.out] at hz4
       have k4 := (cells_at hz4 3).trans (show _ = some (Value.int .i64 pd) from rfl)
       obtain ⟨a4, f4, hv4⟩ := own_slice ho4
       subst hv4
       clear ho4 hg4 hz4)
    | fail)
   refine (HXD.out _).mono ?_
   rintro e w5 ⟨v5, rfl, ho5, hb5⟩
   obtain ⟨a5, f5, hv5, hB5, _, _, _, hn5, _⟩ := own_bytes (lowB_lt 4 xd) ho5
   subst hv5
   have HB5 := Lib.hid hB5
   have HNL5 := Lib.hid hn5
   have HO5 := Lib.hid (own_up HO4.out hb5)
   have HZ5 := Lib.hid ((hb5.block _ (lt_of_block HZ4.out)).trans HZ4.out)
   have HF5 : Hid (Below w.heap.size w w5) := HF4.out.trans (hb5.mono HF4.out.size)
   have HS5 : Hid (wr.heap.size < w5.heap.size) := lt_of_block HZ5.out
   clear ho5 hb5 hB5 hn5 k4
   go_wp2_with (first
    | (refine wpList_append_bytes (v := .slice a4 (m + 2 + 2) f4) (base := w.heap.size) (n := m + 2 + 2) (m := 4) (l := lowB 4 xd) rfl (.tmp 27) (.tmp 31) rfl rfl HO5.out rfl (lowB_len _ _) HB5.out HNL5.out (by have := HMB.out; omega) HF5.out.size ?_
       intro v6 w6 ho6 hg6
       rw [bA_app] at ho6
       have HO6 := Lib.hid ho6
       have HF6 : Hid (Below w.heap.size w w6) := HF5.out.grown hg6 HF5.out.size (fun q h => (HO5.out.lt q h).1)
       have hz6 : w6.heap[wr.heap.size]? = some (.cells (pzA p) 78 (0, 0)) := (hg6.block _ HS5.out (fun e => by
        have h1 := HO5.out.2
        rcases h1 with ⟨h9, _⟩ | ⟨g9, cap9, cur9, q1, q2, q3, q4⟩
        ·cases h9
        ·cases q1
         have e2 : wr.heap.size = g9 := by cases e; rfl
         have h7 := q3.symm.trans (show w5.heap[g9]? = some (.cells (pzA p) 78 (0, 0)) from by rw [<- e2]; exact HZ5.out)
         cases h7)).trans HZ5.out
       have HZ6 := Lib.hid hz6
       rw [HPZ.out] at hz6
       have k6 := (cells_at hz6 4).trans (show _ = some (Value.int .u64 (pe : Int)) from rfl)
       obtain ⟨a6, f6, hv6⟩ := own_slice ho6
       subst hv6
       clear ho6 hg6 hz6)
    | fail)
   refine (HXE.out _).mono ?_
   rintro e w7 ⟨v7, rfl, ho7, hb7⟩
   obtain ⟨a7, f7, hv7, hB7, _, _, _, hn7, _⟩ := own_bytes (lowB_lt 8 pe) ho7
   subst hv7
   have HB7 := Lib.hid hB7
   have HNL7 := Lib.hid hn7
   have HO7 := Lib.hid (own_up HO6.out hb7)
   have HF7 : Hid (Below w.heap.size w w7) := HF6.out.trans (hb7.mono HF6.out.size)
   clear ho7 hb7 hB7 hn7 k6
   go_wp2_with (first
    | (refine wpList_append_bytes (v := .slice a6 (m + 2 + 2 + 4) f6) (base := w.heap.size) (n := m + 2 + 2 + 4) (m := 8) (l := lowB 8 pe) rfl (.tmp 33) (.tmp 36) rfl rfl HO7.out rfl (lowB_len _ _) HB7.out HNL7.out (by have := HMB.out; omega) HF7.out.size ?_
       intro v8 w8 ho8 hg8
       rw [bA_app] at ho8
       have HO8 := Lib.hid ho8
       have HF8 : Hid (Below w.heap.size w w8) := HF7.out.grown hg8 HF7.out.size (fun q h => (HO7.out.lt q h).1)
       obtain ⟨a8, f8, hv8⟩ := own_slice ho8
       subst hv8
       clear ho8 hg8)
    | fail)
   have HL8 : Hid (m + 2 + 2 + 4 + 8 = 16 * (j + 1) /\ (l ++ [xa, xb] ++ lowB 2 xc ++ lowB 4 xd ++ lowB 8 pe).length = m + 2 + 2 + 4 + 8 /\ ∀ x ∈ l ++ [xa, xb] ++ lowB 2 xc ++ lowB 4 xd ++ lowB 8 pe, x < 256) := by
    refine ⟨by have := HM.out.1; omega, by simp only [List.length_append, lowB_len, HM.out.2.1, List.length_cons, List.length_nil] <;> omega, ?_⟩
    exact app_lt (app_lt (app_lt (app_lt HM.out.2.2 HXL.out) (lowB_lt _ _)) (lowB_lt _ _)) (lowB_lt _ _)
   go_roundw
   case rel => exact ⟨j + 1, a8, m + 2 + 2 + 4 + 8, f8, _, by go_num, rfl, by have := HJ.out; show _ <= _; omega, HL8.out, HO8.out, HF8.out⟩
   case measure => simp [intOf]; have := HJ.out; omega
  ·have hjn2 : j = n := by omega
   have hd : decide ((j : Int) < (n : Int)) = false := by simp; omega
   have dl : ¬ (j : Int) < (n : Int) := by omega
   obtain ⟨a', c', hv', hB', _⟩ := own_bytes hm.out.2.2 hown.out
   cases hv'
   have HPD := Lib.hid (rpad_c a m c l hm.out.2.1 (by have h1 := hm.out.1; have h2 := HN16.out; omega) 256 (by omega) wr hB')
   have HLL := Lib.hid (padB_lt l 256 hm.out.2.2)
   clear hjn2 hlt hjn hj hB' hm
   go_wp2_with fail
   refine HPD.out.mono ?_
   rintro e w6 ⟨v6, rfl, ho6, hb6⟩
   have HO6 : Hid (w6.ownsRow w.heap.size 5 1 v6 256 (bA (padB l 256)).toList) := own_mono ho6 hbel.out.size
   have HF6 : Hid (Below w.heap.size w w6) := hbel.out.trans (hb6.mono hbel.out.size)
   clear ho6 hb6
   go_wp2
   go_ret
   exact ⟨_, _, rfl, padB_len _ _, HLL.out, HO6.out, HF6.out⟩
end Go.Proofs.YtpbmjfjnmcpieaaGreat
