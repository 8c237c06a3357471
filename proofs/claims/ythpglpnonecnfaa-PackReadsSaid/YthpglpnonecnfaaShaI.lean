/- The contract of Hash.Write. -/
import Derived.Test.YthpglpnonecnfaaShaH
set_option linter.unusedVariables false
set_option linter.unusedSimpArgs false
namespace Go.Proofs.Ythpglpnonecnfaa
open Go Go.RowKit Sha
theorem blocks_app (m p : List Nat) : ∀ k, 64 * k ≤ m.length → blocksN (m ++ p) k = blocksN m k
  | 0, _ => rfl
  | k + 1, h => by
    show blockN (blocksN (m ++ p) k) _ = blockN (blocksN m k) _
    rw [blocks_app m p k (by omega), List.drop_append_of_le_length (by omega), List.take_append_of_le_length (by rw [List.length_drop]; omega)]
theorem blocks_next (m : List Nat) (k : Nat) : blocksN m (k + 1) = blockN (blocksN m k) ((m.drop (64 * k)).take 64) := rfl
theorem HT_ok : St.ok HT := by unfold St.ok; decide
theorem blocks_ok (m : List Nat) : ∀ k, St.ok (blocksN m k)
  | 0 => HT_ok
  | k + 1 => block_ok _ _
theorem hash_rest (t : Nat) (S : St) (r : Value) (n : Int) (v : Value) : (hashA t S.list r n).setIfInBounds 9 v = hashA t S.list v n := rfl
theorem hash_n (t : Nat) (S : St) (r : Value) (n n' : Int) : (hashA t S.list r n).setIfInBounds 10 (.int .i64 n') = hashA t S.list r n' := rfl
/-- parts: their bytes, one behind the other -/
abbrev Parts := List (Option Addr × Nat × List Nat)
def catP (P : Parts) : List Nat := (P.map (·.2.2)).flatten
theorem catP_succ (P : Parts) (k : Nat) (h : k < P.length) : catP (P.take (k + 1)) = catP (P.take k) ++ (P[k]).2.2 := by
  unfold catP; rw [List.take_succ_eq_append_getElem h]; simp only [List.map_append, List.flatten_append, List.map_cons, List.map_nil, List.flatten_cons, List.flatten_nil, List.append_nil]
theorem catP_le (P : Parts) (k : Nat) : (catP (P.take k)).length ≤ (catP P).length := by
  have : catP P = catP (P.take k) ++ catP (P.drop k) := by
    unfold catP; rw [← List.flatten_append, ← List.map_append, List.take_append_drop]
  rw [this, List.length_append]; omega
/-- a sum that has grown by bytes m; n is its number -/
def HS (w : World) (B hq t : Nat) (m : List Nat) (r : Value) (n : Nat) : Prop :=
  w.heap[hq]? = some (.cells (hashA t (blocksN m (m.length / 64)).list r (n : Int)) 102 (0, 0)) ∧ w.ownsRow B 5 1 r (m.length % 64) (bA (m.drop (64 * (m.length / 64)))).toList
/-- but for the sum and its rest -/
def Fr (B hq : Nat) (r : Value) (w w' : World) : Prop := Below B w w' ∧ ∀ k, k < w.heap.size → k ≠ hq → r.ownBlock ≠ some k → w'.heap[k]? = w.heap[k]?
theorem Fr.refl (B hq : Nat) (r : Value) (w : World) : Fr B hq r w w := ⟨Below.refl _ _, fun _ _ _ _ => rfl⟩
theorem Fr.setCell {B hq : Nat} {r : Value} {a b : World} (h : Fr B hq r a b) (hB : B ≤ hq) (o : Nat) (v : Value) : Fr B hq r a (b.setCell ⟨hq, o, none⟩ v) :=
  ⟨h.1.setCell hB _, fun k hk h1 h2 => (Below.heap_setCell _ _ _ _ (by simpa using h1)).trans (h.2 k hk h1 h2)⟩
theorem Fr.grown {B hq : Nat} {r s : Value} {a b c : World} (h : Fr B hq r a b) (hB : B ≤ a.heap.size) (hg : b.grownBy c s.ownBlock) (hs : ∀ k, s.ownBlock = some k → B ≤ k ∧ (r.ownBlock = some k ∨ a.heap.size ≤ k)) : Fr B hq r a c :=
  ⟨h.1.grown hg (Nat.le_trans hB h.1.size) (fun k e => (hs k e).1), fun k hk h1 h2 => (hg.block k (Nat.lt_of_lt_of_le hk h.1.size) (fun e => by
    rcases (hs k e.symm).2 with h3 | h3
    · exact h2 h3
    · omega)).trans (h.2 k hk h1 h2)⟩
theorem Fr.save {B hq : Nat} {r : Value} {a b c : World} (h : Fr B hq r a b) (hB : B ≤ hq) (hg : Save hq hq b c) : Fr B hq r a c :=
  ⟨h.1.trans (hg.1.mono hB), fun k hk h1 h2 => (hg.2 k (Nat.lt_of_lt_of_le hk h.1.size) h1).trans (h.2 k hk h1 h2)⟩
theorem Fr.drew {B hq : Nat} {r : Value} {a b : World} (h : Fr B hq r a b) : Fr B hq r a b.drew := ⟨h.1.drew, h.2⟩
/-- the rest lies in no block of another kind -/
theorem own_apart {w : World} {base : Nat} {v : Value} {n : Nat} {xs : List Value} (h : w.ownsRow base 5 1 v n xs) {k : Nat} {A : Array Value} {t : TypeId} {z : Nat × Nat} (hk : w.heap[k]? = some (.cells A t z)) (ht : t ≠ 5) : v.ownBlock ≠ some k := by
  rcases h.2 with ⟨rfl, _⟩ | ⟨g, cap, cur, rfl, _, hg, _⟩
  · simp [Value.ownBlock]
  · intro e
    simp [Value.ownBlock] at e
    subst e
    rw [hk] at hg
    injection hg with hg
    injection hg with _ h2 _
    exact ht h2
theorem own_keep {w w' : World} {base : Nat} {e : TypeId} {size : Nat} {v : Value} {n : Nat} {xs : List Value} (h : w.ownsRow base e size v n xs) (hk : ∀ k, v.ownBlock = some k → w'.heap[k]? = w.heap[k]?) : w'.ownsRow base e size v n xs := by
  refine ⟨h.1, ?_⟩
  rcases h.2 with h2 | ⟨g, cap, cur, rfl, h3, hg, h4⟩
  · exact .inl h2
  · exact .inr ⟨g, cap, cur, rfl, h3, (hk g rfl).trans hg, h4⟩
theorem bytes_keep {w w' : World} {a : Option Addr} {cap : Nat} {l : List Nat} (hB : BytesAt w a cap l) (hk : ∀ g o, a = some ⟨g, o, none⟩ → g < w.heap.size → w'.heap[g]? = w.heap[g]?) : BytesAt w' a cap l := by
  refine ⟨hB.1, fun h0 => ?_⟩
  obtain ⟨g, o, h1, h2, h3, h4⟩ := hB.2 h0
  have he := hk g o h1 h3
  refine ⟨g, o, h1, h2, ?_, fun j hj => ?_⟩
  · have := he.trans (Array.getElem?_eq_getElem h3)
    exact (Array.getElem?_eq_some_iff.1 this).1
  · rw [← h4 j hj]; simp [World.cell?, he]
theorem own_mono {w : World} {base base2 : Nat} {e : TypeId} {size : Nat} {v : Value} {n : Nat} {xs : List Value} (h : w.ownsRow base e size v n xs) (hb : base2 ≤ base) : w.ownsRow base2 e size v n xs := by
  refine ⟨h.1, ?_⟩
  rcases h.2 with h2 | ⟨g, cap, cur, rfl, h3, h4⟩
  · exact .inl h2
  · exact .inr ⟨g, cap, cur, rfl, Nat.le_trans hb h3, h4⟩
theorem bA_app (a b : List Nat) : (bA a).toList ++ (bA b).toList = (bA (a ++ b)).toList := by simp [bA]
/-- the bytes of a row -/
theorem own_bytes {w : World} {base : Nat} {v : Value} {n : Nat} {l : List Nat} (hl : ∀ x ∈ l, x < 256) (h : w.ownsRow base 5 1 v n (bA l).toList) : ∃ a cap, v = .slice a n cap ∧ BytesAt w a cap l ∧ l.length = n ∧ n ≤ cap ∧ cap ≤ maxLen ∧ (a = none → cap = 0) ∧ (∀ g o z, a = some ⟨g, o, z⟩ → base ≤ g ∧ o = 0 ∧ z = none ∧ v.ownBlock = some g ∧ g < w.heap.size) := by
  have hln : l.length = n := by have := h.1; simpa [bA] using this
  rcases h.2 with ⟨rfl, rfl⟩ | ⟨g, cap, cur, rfl, h3, hg, h4, h5, h6, h7⟩
  · exact ⟨none, 0, rfl, ⟨hl, fun h0 => by omega⟩, hln, Nat.le_refl _, Nat.zero_le _, fun _ => rfl, (fun _ _ _ h => by cases h)⟩
  · refine ⟨_, cap, rfl, ⟨hl, fun h0 => ⟨g, 0, rfl, by omega, lt_of_block hg, fun j hj => ?_⟩⟩, hln, h4, h5, (fun h => by cases h), fun g' o z h => ?_⟩
    · rw [Nat.zero_add, cells_at hg j]
      have := congrArg (fun l => l[j]?) h7
      simp only [Nat.mul_one] at *
      rw [List.getElem?_take_of_lt (by omega), Array.getElem?_toList, Array.getElem?_toList, bA_get _ j hj] at *
      assumption
    · cases h
      exact ⟨h3, rfl, rfl, rfl, lt_of_block hg⟩
set_option maxRecDepth 100000 in
set_option maxHeartbeats 8000000 in
theorem hwrite_c (B hq t : Nat) (m : List Nat) (r : Value) (n : Nat) (ps po pc : Nat) (P : Parts) (w : World) (hBq : B ≤ hq) (hBw : B ≤ w.heap.size) (hm : ∀ x ∈ m, x < 256)
    (hS : HS w B hq t m r n) (hT : w.heap[t]? = some (.cells (wA (KT ++ HL)) 80 (0, 0)))
    (hP : ∀ k s, P[k]? = some s → w.cell? ⟨ps, po + k, none⟩ = some (.slice s.1 s.2.2.length s.2.1) ∧ BytesAt w s.1 s.2.1 s.2.2 ∧ (s.1 = none → s.2.1 = 0) ∧ ∀ g o, s.1 = some ⟨g, o, none⟩ → g ≠ hq ∧ r.ownBlock ≠ some g)
    (hps : ps ≠ hq ∧ r.ownBlock ≠ some ps ∧ ps < w.heap.size) (hPl : P.length ≤ 1000000) (hN : n + (catP P).length ≤ 1000000) (hM : m.length + (catP P).length ≤ 1000000) :
    Calls Try.prog 50 #[.pointer (some ⟨hq, 0, none⟩), .slice (some ⟨ps, po, none⟩) P.length pc] w fun e w' => e = .returned undef ∧ ∃ r', HS w' B hq t (m ++ catP P) r' (n + (catP P).length) ∧ Fr B hq r w w' := by
  have HSW := Lib.hid hS
  have HTN : Hid (t ≠ hq ∧ r.ownBlock ≠ some t) := by
    refine ⟨?_, own_apart hS.2 hT (by decide)⟩
    rintro rfl
    have h := hS.1
    rw [hT] at h
    injection h with h
    injection h with _ h2 _
    exact absurd h2 (by decide)
  have HTT := Lib.hid hT
  have HP := Lib.hid hP
  have HPS := Lib.hid hps
  have HN := Lib.hid hN
  have HM := Lib.hid hM
  have HPL := Lib.hid hPl
  have HB := Lib.hid (And.intro hBq hBw)
  have HMB := Lib.hid hm
  clear hS hT hP hps hN hM hPl hBq hBw hm
  go_enter Try.func50, Try.ntmps50
  go_wp2
  go_loopw [11] (fun vi wr => ∃ k : Nat, k ≤ P.length ∧ vi = .int .i64 (k : Int) ∧ ∃ r', Hid (HS wr B hq t (m ++ catP (P.take k)) r' (n + (catP (P.take k)).length)) ∧ Hid (Fr B hq r w wr) ∧ Hid (∀ b, r'.ownBlock = some b → r.ownBlock = some b ∨ w.heap.size ≤ b)) (fun vi _ => P.length - (intOf vi).toNat)
  case atStart => exact ⟨0, by omega, rfl, r, by show HS _ _ _ _ _ _ _; simpa [catP] using HSW.out, Fr.refl _ _ _ _, fun b h => .inl h⟩
  case round =>
    clear HSW
    obtain ⟨k, hk, rfl, rk, hsk, hfr, hrk⟩ := hrel
    by_cases hlt : k < P.length
    · have hd : decide ((k : Int) < (P.length : Int)) = true := by simp; omega
      have dl : (k : Int) < (P.length : Int) := by omega
      have d0 : ¬ (k : Int) < 0 := by omega
      have HK := Lib.hid hlt
      obtain ⟨hp1, hp2, hp3, hp4⟩ := HP.out k _ (List.getElem?_eq_getElem hlt)
      have hcs := catP_succ P k hlt
      have hcl := catP_le P (k + 1)
      generalize P[k] = sg at *
      obtain ⟨pa, pcap, pl⟩ := sg
      simp only at hp1 hp2 hp3 hp4 hcs
      obtain ⟨mk, hmk⟩ : ∃ mk, mk = m ++ catP (P.take k) := ⟨_, rfl⟩
      obtain ⟨nk, hnk⟩ : ∃ nk, nk = n + (catP (P.take k)).length := ⟨_, rfl⟩
      rw [← hmk, ← hnk] at hsk
      obtain ⟨ln, hln⟩ : ∃ ln, ln = pl.length := ⟨_, rfl⟩
      have cp : wr.cell? ⟨ps, po + k, none⟩ = some (.slice pa ln pcap) := by
        rw [hln, ← hp1]; simp only [World.cell?]; rw [hfr.out.2 ps HPS.out.2.2 HPS.out.1 HPS.out.2.1]
      have hnl : nk + ln ≤ 1000000 := by have := HN.out; rw [hcs, List.length_append] at hcl; omega
      have hml : mk.length + ln ≤ 1000000 := by have := HM.out; rw [hcs, List.length_append] at hcl; rw [hmk, List.length_append]; omega
      have HE : Hid (m ++ catP (P.take (k + 1)) = mk ++ pl ∧ n + (catP (P.take (k + 1))).length = nk + ln) := by
        refine ⟨by rw [hcs, hmk, List.append_assoc], by rw [hcs, hnk, List.length_append]; omega⟩
      have HPB : Hid (BytesAt wr pa pcap pl) := bytes_keep hp2 (fun g o h hl => hfr.out.2 g hl (hp4 g o h).1 (hp4 g o h).2)
      have hq0 := hsk.out.1
      have hown0 := hsk.out.2
      have hne0 := own_apart hown0 hq0 (by decide)
      obtain ⟨S0, hS0⟩ : ∃ S, S = blocksN mk (mk.length / 64) := ⟨_, rfl⟩
      rw [← hS0] at hq0
      have c10 := (cells_at hq0 10).trans (show _ = some (Value.int .i64 (nk : Int)) from rfl)
      have f10 := free_at hq0 10
      have ew : IntKind.i64.wrap ((nk : Int) + (ln : Int)) = ((nk + ln : Nat) : Int) := by rw [IntWalk.i64_in _ (by omega)]; omega
      obtain ⟨n1, hn1⟩ : ∃ n1, n1 = nk + ln := ⟨_, rfl⟩
      rw [← hn1] at ew
      have nb := block_at hq0 10 (.int .i64 (n1 : Int))
      rw [hash_n] at nb
      have HQ1 := Lib.hid nb
      have HR1 : Hid ((wr.setCell ⟨hq, 10, none⟩ (.int .i64 (n1 : Int))).ownsRow B 5 1 rk (mk.length % 64) (bA (mk.drop (64 * (mk.length / 64)))).toList) := own_keep hown0 (fun k hk => Below.heap_setCell _ _ _ _ (by rintro rfl; exact hne0 hk))
      have HP1 : Hid (BytesAt (wr.setCell ⟨hq, 10, none⟩ (.int .i64 (n1 : Int))) pa pcap pl) := bytes_keep HPB.out (fun g o h _ => Below.heap_setCell _ _ _ _ (hp4 g o h).1)
      have HF1 : Hid (Fr B hq r w (wr.setCell ⟨hq, 10, none⟩ (.int .i64 (n1 : Int)))) := hfr.out.setCell HB.out.1 _ _
      have HLN := Lib.hid hln.symm
      have HNE0 := Lib.hid hne0
      have HML := Lib.hid hml
      have HN1 := Lib.hid hn1
      have HN3 := Lib.hid hp3
      have HRK := Lib.hid hrk.out
      have c9 : (wr.setCell ⟨hq, 10, none⟩ (.int .i64 (n1 : Int))).cell? ⟨hq, 9, none⟩ = some rk := (cells_at HQ1.out 9).trans rfl
      have HMK : Hid (∀ x ∈ mk ++ pl, x < 256) := by
        intro x hx
        rcases List.mem_append.1 hx with hx | hx
        · rw [hmk] at hx
          rcases List.mem_append.1 hx with hx | hx
          · exact HMB.out x hx
          · unfold catP at hx
            rw [List.mem_flatten] at hx
            obtain ⟨l, hl, hx⟩ := hx
            rw [List.mem_map] at hl
            obtain ⟨s, hs, rfl⟩ := hl
            obtain ⟨i, hi, he⟩ := List.getElem_of_mem hs
            have hs2 : P[i]? = some s := by
              rw [List.length_take] at hi
              rw [List.getElem_take] at he
              rw [List.getElem?_eq_getElem (by omega), he]
            exact (HP.out i s hs2).2.1.1 x hx
        · exact HPB.out.1 x hx
      obtain ⟨M, hM⟩ : ∃ M, M = mk ++ pl := ⟨_, rfl⟩
      have HMM := Lib.hid hM
      rw [← hM] at HE HMK
      obtain ⟨q0, hq00⟩ : ∃ q, q = mk.length / 64 := ⟨_, rfl⟩
      have HQ0 := Lib.hid hq00
      have HRES : Hid (mk.drop (64 * q0) ++ pl = M.drop (64 * q0)) := by
        show _ = _
        rw [hM, List.drop_append_of_le_length (by omega)]
      have HLL : Hid (mk.length % 64 + ln = M.length - 64 * q0 ∧ 64 * q0 ≤ mk.length ∧ M.length = mk.length + ln) := by
        have h : M.length = mk.length + ln := by rw [hM, List.length_append, hln]
        exact ⟨by omega, by omega, h⟩
      rw [← hq00] at hS0 HR1
      have HSB : Hid (S0 = blocksN M q0) := by
        show _ = _
        rw [hS0, hM, blocks_app _ _ _ (by omega)]
      clear hM hq00 hq0 hown0 hne0 hS0 nb hn1 hln hp1 hp2 hp3 hp4 hcs hcl hmk hnk hnl hml hk hlt hsk hfr hrk HPB
      go_wp2_with (first
        | (refine wpList_append_bytes (v := rk) (base := B) (l := pl) rfl (.tmp 28) (.tmp 29) rfl rfl HR1.out rfl HLN.out HP1.out HN3.out (by have := HML.out; omega) (Nat.le_trans HB.out.2 HF1.out.1.size) ?_; intro v2 w2 hown2 hgr2; rw [bA_app, HRES.out] at hown2; obtain ⟨a2, cap2, hv2, hb2, hl2, hlc2, hcm2, hn2, hg2⟩ := own_bytes (fun x hx => HMK.out x (List.mem_of_mem_drop hx)) hown2; have HOWN2 := Lib.hid hown2; have HGR2 := Lib.hid hgr2; have HB2 := Lib.hid hb2; have HL2 := Lib.hid hl2; have HLC2 := Lib.hid hlc2; have HCM2 := Lib.hid hcm2; have HN2 := Lib.hid hn2; have HG2 := Lib.hid hg2; have HQ2 : Hid (w2.heap[hq]? = some (.cells (hashA t S0.list rk (n1 : Int)) 102 (0, 0))) := (hgr2.block hq (lt_of_block HQ1.out) (fun e => HNE0.out e.symm)).trans HQ1.out; have f9 := free_at HQ2.out 9; have c9b := (cells_at HQ2.out 9).trans (show _ = some rk from rfl); subst hv2; clear hown2 hgr2 hb2 hl2 hlc2 hcm2 hn2 hg2)
        | fail)
      obtain ⟨L, hL⟩ : ∃ L, L = mk.length % 64 + ln := ⟨_, rfl⟩
      have HLD : Hid (L = M.length - 64 * q0 ∧ L ≤ 1000000) := by
        have h1 := HLL.out; have h2 := HML.out
        exact ⟨by omega, by omega⟩
      rw [← hL] at HOWN2 HL2 HLC2 HG2 ⊢
      have nb3 := block_at HQ2.out 9 (.slice a2 L cap2)
      rw [hash_rest, HSB.out] at nb3
      have HNE2 := Lib.hid (own_apart HOWN2.out HQ2.out (by decide))
      have HW3 : Hid ((w2.setCell ⟨hq, 9, none⟩ (.slice a2 L cap2)).ownsRow B 5 1 (.slice a2 L cap2) L (bA (M.drop (64 * q0))).toList) := own_keep HOWN2.out (fun k hk => Below.heap_setCell _ _ _ _ (by rintro rfl; exact HNE2.out hk))
      have HF3 : Hid (Fr B hq r w (w2.setCell ⟨hq, 9, none⟩ (.slice a2 L cap2))) := (HF1.out.grown HB.out.2 HGR2.out (fun k hk => ⟨(HR1.out.lt k hk).1, HRK.out k hk⟩)).setCell HB.out.1 _ _
      have HQ3 := Lib.hid nb3
      generalize w2.setCell ⟨hq, 9, none⟩ (.slice a2 L cap2) = W3 at *
      clear nb3 hL HQ2 HGR2 HOWN2 c9b f9 c9 f10 c10 cp HQ1 HR1 HP1 HF1 HB2 ew
      go_loopw [6] (fun va wx => ∃ i x : Nat, x ≤ L ∧ va = .int .i64 (x : Int) ∧ Hid (x = 64 * i) ∧ Hid (wx.heap[hq]? = some (.cells (hashA t (blocksN M (q0 + i)).list (.slice a2 L cap2) (n1 : Int)) 102 (0, 0))) ∧ Hid (wx.ownsRow B 5 1 (.slice a2 L cap2) L (bA (M.drop (64 * q0))).toList) ∧ Hid (Fr B hq r w wx)) (fun va _ => L - (intOf va).toNat)
      case atStart => exact ⟨0, 0, by omega, rfl, rfl, HQ3.out, HW3.out, HF3.out⟩
      case round =>
        clear HQ3 HW3 HF3
        obtain ⟨i, x, hx, rfl, hxi, hqx, hox, hfx⟩ := hrel
        have c9 : wr.cell? ⟨hq, 9, none⟩ = some (.slice a2 L cap2) := (cells_at hqx.out 9).trans rfl
        have hxl := HLD.out.2
        obtain ⟨y, hy⟩ : ∃ y, y = L - x := ⟨_, rfl⟩
        have ey : IntKind.i64.wrap ((L : Int) - (x : Int)) = (y : Int) := by rw [IntWalk.i64_in _ (by omega)]; omega
        by_cases h64 : 64 ≤ y
        · have hd2 : decide ((y : Int) ≥ 64) = true := by simp; omega
          have dl2 : (64 : Int) ≤ (y : Int) := by omega
          obtain ⟨g, rfl⟩ : ∃ g, a2 = some ⟨g, 0, none⟩ := by
            rcases hox.out.2 with ⟨_, h⟩ | ⟨g, cap, cur, h, _⟩
            · omega
            · injection h with h _ _
              exact ⟨g, h⟩
          obtain ⟨x2, hx2⟩ : ∃ x2, x2 = x + 64 := ⟨_, rfl⟩
          have ex2 : IntKind.i64.wrap ((x : Int) + 64) = (x2 : Int) := by rw [IntWalk.i64_in _ (by omega)]; omega
          have s1 : (0 : Int) ≤ (x : Int) := by omega
          have s2 : (x : Int) ≤ (x2 : Int) := by omega
          have s3 : (x2 : Int) ≤ (cap2 : Int) := by have := HLC2.out; omega
          have s4 : ¬ cap2 = x := by have := HLC2.out; omega
          have s5 : x2 - x = 64 := by omega
          have hcell : ∀ j, j < 64 → wr.cell? ⟨g, x + j, none⟩ = some (.int .u8 ((((M.drop (64 * (q0 + i))).take 64).getD j 0 : Nat) : Int)) := fun j hj => by
            have hlen : (M.drop (64 * q0)).length = L := HL2.out
            rw [hox.out.cellAt (x + j) (by omega), Array.getElem?_toList, bA_get _ _ (by omega)]
            congr 3
            rw [List.getD_eq_getElem?_getD, List.getD_eq_getElem?_getD, List.getElem?_take_of_lt hj, List.getElem?_drop, List.getElem?_drop]
            congr 2
            have := hxi.out; omega
          have hbl : ((M.drop (64 * (q0 + i))).take 64).length = 64 := by
            have h1 := HLD.out.1; have h2 := hxi.out
            rw [List.length_take, List.length_drop]; omega
          have HBC := Lib.hid (block_c hq t (blocksN M (q0 + i)) (blocks_ok _ _) (.slice (some ⟨g, 0, none⟩) L cap2) (n1 : Int) g x (cap2 - x) (by have := HLC2.out; omega) ((M.drop (64 * (q0 + i))).take 64) hbl (fun y hy => HMK.out y (List.mem_of_mem_drop (List.mem_of_mem_take hy))) wr (hox.out.lt g rfl).2 hcell hqx.out ((hfx.out.2 t (lt_of_block HTT.out) HTN.out.1 HTN.out.2).trans HTT.out))
          have HX2 : Hid (x2 = 64 * (i + 1) ∧ x2 ≤ L ∧ x < x2) := by have := hxi.out; exact ⟨by omega, by omega, by omega⟩
          clear hx2 h64 hy hcell hbl hx hxl
          go_wp2_with fail
          refine HBC.out.mono ?_
          rintro e w5 ⟨rfl, hq5, hsv5⟩
          have HQ5 : Hid (w5.heap[hq]? = some (.cells (hashA t (blocksN M (q0 + (i + 1))).list (.slice (some ⟨g, 0, none⟩) L cap2) (n1 : Int)) 102 (0, 0))) := hq5
          have HO5 : Hid (w5.ownsRow B 5 1 (.slice (some ⟨g, 0, none⟩) L cap2) L (bA (M.drop (64 * q0))).toList) := own_keep hox.out (fun k hk => hsv5.2 k (hox.out.lt k hk).2 (by rintro rfl; exact HNE2.out hk))
          have HF5 : Hid (Fr B hq r w w5) := hfx.out.save HB.out.1 hsv5
          clear hq5 hsv5 HBC
          go_wp2
          go_roundw
          case rel => exact ⟨i + 1, x2, HX2.out.2.1, by go_num, HX2.out.1, HQ5.out, HO5.out, HF5.out⟩
          case measure => simp [intOf]; have := HX2.out; omega
        · have hd2 : decide ((y : Int) ≥ 64) = false := by simp; omega
          have dl2 : ¬ (64 : Int) ≤ (y : Int) := by omega
          have HQI : Hid (q0 + i = M.length / 64 ∧ y = M.length % 64) := by
            have h1 := HLD.out.1; have h2 := hxi.out; have h3 := HLL.out
            exact ⟨by omega, by omega⟩
          have hqf : wr.heap[hq]? = some (.cells (hashA t (blocksN M (M.length / 64)).list (.slice a2 L cap2) (n1 : Int)) 102 (0, 0)) := by
            have h := hqx.out; rw [HQI.out.1] at h; exact h
          have HQF := Lib.hid hqf
          obtain ⟨T, hT⟩ : ∃ T, T = M.drop (64 * (M.length / 64)) := ⟨_, rfl⟩
          have HTD := Lib.hid hT
          have hTl : T.length = y := by rw [hT, List.length_drop, HQI.out.2]; omega
          have HTL := Lib.hid hTl
          have hTb : ∀ z ∈ T, z < 256 := fun z hz => HMK.out z (List.mem_of_mem_drop (by rw [hT] at hz; exact hz))
          have HTB := Lib.hid hTb
          have HWS : Hid (w.heap.size ≤ wr.heap.size) := hfx.out.1.size
          have f9 := free_at hqf 9
          have s1 : (0 : Int) ≤ (x : Int) := by omega
          have s2 : (x : Int) ≤ (L : Int) := by omega
          have s3 : (x : Int) ≤ (cap2 : Int) := by have := HLC2.out; omega
          have s6 : L - x = y := hy.symm
          have ek : IntKind.i64.wrap ((k : Int) + 1) = (k : Int) + 1 := by have h1 := HK.out; have h2 := HPL.out; exact IntWalk.i64_in _ (by omega)
          have HYB : Hid (y ≤ 1000000) := by show _ ≤ _; omega
          have HBT : Hid (∀ g, a2 = some ⟨g, 0, none⟩ → BytesAt wr (some ⟨g, x, none⟩) (cap2 - x) T) := by
            rintro g rfl
            refine ⟨hTb, fun h0 => ⟨g, x, rfl, by have := HLC2.out; omega, (hox.out.lt g rfl).2, fun j hj => ?_⟩⟩
            have hlen : (M.drop (64 * q0)).length = L := HL2.out
            rw [hox.out.cellAt (x + j) (by omega), Array.getElem?_toList, bA_get _ _ (by omega)]
            congr 3
            rw [hT, List.getD_eq_getElem?_getD, List.getD_eq_getElem?_getD, List.getElem?_drop, List.getElem?_drop]
            congr 2
            have := hxi.out; have := HQI.out.1; omega
          have HA2 : Hid (a2 = none ∨ ∃ g, a2 = some ⟨g, 0, none⟩) := by
            rcases hox.out.2 with ⟨h, _⟩ | ⟨g, cap, cur, h, _⟩
            · injection h with h _ _; exact .inl h
            · injection h with h _ _; exact .inr ⟨g, h⟩
          clear hqf hT hTl hTb hy h64 hx hxl hqx hxi hox
          rcases HA2.out with rfl | ⟨g, rfl⟩
          · have hcp0 : cap2 = 0 := HN2.out rfl
            have hL0 : L = 0 := by have := HLC2.out; omega
            have hx0 : x = 0 := by omega
            have hy0 : y = 0 := by omega
            subst hcp0 hL0 hx0
            have c9n : wr.cell? ⟨hq, 9, none⟩ = some (.slice none 0 0) := c9
            go_wp2_with fail
            go_roundw
            case rel =>
              have nb5 := block_at HQF.out 9 (.slice none 0 0)
              rw [hash_rest] at nb5
              refine ⟨k + 1, by have := HK.out; omega, by go_num, .slice none 0 0, ?_, ?_, ?_⟩
              · rw [HE.out.1, HE.out.2, ← HN1.out]
                refine ⟨nb5, ?_⟩
                have ht0 : T = [] := List.length_eq_zero_iff.1 (HTL.out.trans hy0)
                rw [← HQI.out.2, ← HTD.out, hy0, ht0]
                exact World.ownsRow_nil _ _ _ _
              · exact hfx.out.setCell HB.out.1 _ _
              · intro b hb; cases hb
            case measure => simp [intOf]; have := HK.out; omega
          · by_cases hcx : cap2 = x
            · have hy0 : y = 0 := by have := HLC2.out; omega
              have ht0 : T = [] := List.length_eq_zero_iff.1 (HTL.out.trans hy0)
              have HT9 : Hid (BytesAt wr (some ⟨g, 0, none⟩) 0 T) := by
                show BytesAt _ _ _ _
                rw [ht0]
                exact ⟨(fun x hx => by cases hx), (fun h => by cases h)⟩
              clear ht0 hy0
              go_wp2_with (first
                | (refine wpList_append_bytes (v := .slice none 0 0) (base := wr.heap.size) (n := 0) (xs := []) (a := some ⟨g, 0, none⟩) (cap := 0) (l := T) rfl (.const (.slice none 0 0)) (.tmp 59) rfl rfl (World.ownsRow_nil _ _ _ _) rfl HTL.out HT9.out (fun h => by cases h) (by have := HYB.out; omega) (Nat.le_refl _) ?_; intro v5 w5 hown5 hgr5; rw [Nat.zero_add, List.nil_append] at hown5; obtain ⟨a5, cap5, hv5, hb5, hl5, hlc5, hcm5, hn5, hg5⟩ := own_bytes HTB.out hown5; have HOWN5 := Lib.hid hown5; have HGR5 := Lib.hid hgr5; have HQ5 : Hid (w5.heap[hq]? = some (.cells (hashA t (blocksN M (M.length / 64)).list (.slice (some ⟨g, 0, none⟩) L cap2) (n1 : Int)) 102 (0, 0))) := (hgr5.block hq (lt_of_block HQF.out) (by simp [Value.ownBlock])).trans HQF.out; have f9c := free_at HQ5.out 9; have c9c := (cells_at HQ5.out 9).trans (show _ = some (Value.slice (some ⟨g, 0, none⟩) L cap2) from rfl); subst hv5; clear hown5 hgr5 hb5 hl5 hlc5 hcm5 hn5 hg5)
                | fail)
              go_roundw
              case rel =>
                have nb5 := block_at HQ5.out 9 (.slice a5 y cap5)
                rw [hash_rest] at nb5
                have hne5 := own_apart HOWN5.out HQ5.out (by decide)
                refine ⟨k + 1, by have := HK.out; omega, by go_num, .slice a5 y cap5, ?_, ?_, ?_⟩
                · rw [HE.out.1, HE.out.2, ← HN1.out]
                  refine ⟨nb5, ?_⟩
                  rw [← HQI.out.2, ← HTD.out]
                  exact own_keep (own_mono HOWN5.out (Nat.le_trans HB.out.2 HWS.out)) (fun k hk => Below.heap_setCell _ _ _ _ (by rintro rfl; exact hne5 hk))
                · exact (hfx.out.grown (s := .slice none 0 0) HB.out.2 HGR5.out (fun k hk => by cases hk)).setCell HB.out.1 _ _
                · intro b hb
                  exact .inr (Nat.le_trans HWS.out (HOWN5.out.lt b hb).1)
              case measure => simp [intOf]; have := HK.out; omega
            · have HT9 := Lib.hid (HBT.out g rfl)
              go_wp2_with (first
                | (refine wpList_append_bytes (v := .slice none 0 0) (base := wr.heap.size) (n := 0) (xs := []) (a := some ⟨g, x, none⟩) (cap := cap2 - x) (l := T) rfl (.const (.slice none 0 0)) (.tmp 59) rfl rfl (World.ownsRow_nil _ _ _ _) rfl HTL.out HT9.out (fun h => by cases h) (by have := HYB.out; omega) (Nat.le_refl _) ?_; intro v5 w5 hown5 hgr5; rw [Nat.zero_add, List.nil_append] at hown5; obtain ⟨a5, cap5, hv5, hb5, hl5, hlc5, hcm5, hn5, hg5⟩ := own_bytes HTB.out hown5; have HOWN5 := Lib.hid hown5; have HGR5 := Lib.hid hgr5; have HQ5 : Hid (w5.heap[hq]? = some (.cells (hashA t (blocksN M (M.length / 64)).list (.slice (some ⟨g, 0, none⟩) L cap2) (n1 : Int)) 102 (0, 0))) := (hgr5.block hq (lt_of_block HQF.out) (by simp [Value.ownBlock])).trans HQF.out; have f9c := free_at HQ5.out 9; have c9c := (cells_at HQ5.out 9).trans (show _ = some (Value.slice (some ⟨g, 0, none⟩) L cap2) from rfl); subst hv5; clear hown5 hgr5 hb5 hl5 hlc5 hcm5 hn5 hg5)
                | fail)
              go_roundw
              case rel =>
                have nb5 := block_at HQ5.out 9 (.slice a5 y cap5)
                rw [hash_rest] at nb5
                have hne5 := own_apart HOWN5.out HQ5.out (by decide)
                refine ⟨k + 1, by have := HK.out; omega, by go_num, .slice a5 y cap5, ?_, ?_, ?_⟩
                · rw [HE.out.1, HE.out.2, ← HN1.out]
                  refine ⟨nb5, ?_⟩
                  rw [← HQI.out.2, ← HTD.out]
                  exact own_keep (own_mono HOWN5.out (Nat.le_trans HB.out.2 HWS.out)) (fun k hk => Below.heap_setCell _ _ _ _ (by rintro rfl; exact hne5 hk))
                · exact (hfx.out.grown (s := .slice none 0 0) HB.out.2 HGR5.out (fun k hk => by cases hk)).setCell HB.out.1 _ _
                · intro b hb
                  exact .inr (Nat.le_trans HWS.out (HOWN5.out.lt b hb).1)
              case measure => simp [intOf]; have := HK.out; omega
    · have hkl : k = P.length := by omega
      have hd : decide ((k : Int) < (P.length : Int)) = false := by simp; omega
      have HF : Hid (HS wr B hq t (m ++ catP P) rk (n + (catP P).length)) := by
        have h := hsk.out
        rw [hkl, List.take_length] at h
        exact h
      clear hsk hkl hk
      go_wp2
      go_end0
      exact ⟨rfl, rk, HF.out, hfr.out⟩
end Go.Proofs.Ythpglpnonecnfaa
