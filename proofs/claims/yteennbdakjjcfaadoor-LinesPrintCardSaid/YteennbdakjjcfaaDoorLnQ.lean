/- A line's act: the program's. Printed by gen_lnq.py. -/
import Derived.Test.YteennbdakjjcfaaDoorLnP
import Derived.Lib.OthersKept
set_option linter.unusedVariables false
set_option linter.unusedSimpArgs false
namespace Go.Proofs.YteennbdakjjcfaaDoor
open Go Go.RowKit Go.Lib
/-- the kind of a word -/
def kindN (x : List UInt8) : Option Nat := (List.range 20).find? fun k => decide (nameK k = x)
theorem kindN_hit {x : List UInt8} {k : Nat} (hk : k < 20) (h : nameK k = x) (hn : ∀ j, j < k → nameK j ≠ x) : kindN x = some k := by
  unfold kindN
  rw [List.find?_range_eq_some]
  exact ⟨by simpa using h, by simpa using hk, fun j hj => by simpa using hn j hj⟩
theorem kindN_miss {x : List UInt8} (hn : ∀ j, j < 20 → nameK j ≠ x) : kindN x = none := by
  unfold kindN
  rw [List.find?_range_eq_none]
  exact fun j hj => by simpa using hn j hj
def foldN (s : Option (AN × List (List UInt8))) (f : List UInt8) : Option (AN × List (List UInt8)) := f.foldl (fun s c => stepN s c.toNat) s
theorem foldN_nil (s : Option (AN × List (List UInt8))) : foldN s [] = s := rfl
theorem foldN_drop (s : Option (AN × List (List UInt8))) (f : List UInt8) (i : Nat) (h : i < f.length) : foldN s (f.drop i) = foldN (stepN s (f.getD i 0).toNat) (f.drop (i + 1)) := by
  rw [List.drop_eq_getElem_cons h, List.getD_eq_getElem?_getD, List.getElem?_eq_getElem h]; rfl
def endN (s : Option (AN × List (List UInt8))) : Option AN := s.bind fun p => if p.2 = [] ∧ mayA p.1 = true then some p.1 else none
def startA (k : Nat) : AN := ⟨(k : Int), false, 0, 0, 0, 0, []⟩
/-- the act of a line's words -/
def actN (ws : List (List UInt8)) : Option AN := match ws with
  | [] => none
  | x :: ws => (kindN x).bind fun k => endN (foldN (some (startA k, ws)) (orderK k))
theorem actN_cons (x : List UInt8) (ws : List (List UInt8)) : actN (x :: ws) = (kindN x).bind fun k => endN (foldN (some (startA k, ws)) (orderK k)) := rfl
theorem end_of (bad : Bool) (a : AN) (rest : List (List UInt8)) : endN (stN bad a rest) = if bad = false ∧ rest = [] ∧ mayA a = true then some a else none := by
  unfold stN endN
  cases bad with
  | true => rfl
  | false => simp
/-- what act leaves -/
def ActP (lb : Nat) (ws : List (List UInt8)) (w : World) (e : Ending) (w' : World) : Prop := Below lb w w' ∧ ∃ a va vc, e = .returned (.tuple #[.agg (actA a (.slice va a.b.length vc)), .bool (actN ws).isSome]) ∧
  ∀ a', actN ws = some a' → a' = a ∧ BytesAt w' va vc a.b ∧ (va = none → vc = 0) ∧ ∀ g o z, va = some ⟨g, o, z⟩ → lb < g
theorem bytes_iter {w : World} {va : Option Addr} {vc it : Nat} {l : List Nat} {s : ByteArray} {pos : Nat} (h : BytesAt w va vc l) (hk : w.heap[it]? = some (.stringIter s pos)) (p : Nat) : BytesAt (w.iterAt it s p) va vc l := by
  refine ⟨h.1, fun h0 => ?_⟩
  obtain ⟨g, o, h1, h2, h3, h4⟩ := h.2 h0
  have hne : g ≠ it := fun e => by
    subst e
    have := h4 0 h0
    unfold World.cell? at this
    rw [hk] at this
    simp at this
  refine ⟨g, o, h1, h2, by rw [Lib.iterAt_size]; exact h3, fun j hj => ?_⟩
  have := h4 j hj
  unfold World.cell? at this ⊢
  rw [Lib.iterAt_other _ _ _ _ _ hne]
  exact this
theorem ActAt.iter {w : World} {ab it : Nat} {a : AN} {s : ByteArray} {pos : Nat} (h : ActAt w ab a) (hk : w.heap[it]? = some (.stringIter s pos)) (p : Nat) : ActAt (w.iterAt it s p) ab a := by
  obtain ⟨va, vc, h1, h2, h3, h4⟩ := h
  have hne : ab ≠ it := fun e => by subst e; rw [hk] at h1; cases h1
  exact ⟨va, vc, (Lib.iterAt_other _ _ _ _ _ hne).trans h1, bytes_iter h2 hk p, h3, h4⟩
theorem LineIs.iter {w : World} {lb it : Nat} {ws : List (List UInt8)} {bad : Bool} {s : ByteArray} (h : LineIs w lb ws bad) (hlt : lb < it) (p : Nat) : LineIs (w.iterAt it s p) lb ws bad :=
  h.far (Lib.below_iterAt (Below.refl _ _) (by omega) s p)
theorem act_agg (a : AN) (u : Value) : (actA a u).toList.toArray = actA a u := by simp
theorem actA_one (a : AN) (va : Option Addr) (n c : Nat) : (actA a (.slice va n c)).all (·.oneCell') = true := by
  rw [← Array.all_toList]; simp [actA, Value.oneCell']
theorem save_row {r : Nat} {w w' : World} (h : Save r r w w') (cs : Array Value) : Save r r w (w'.setRow r cs) :=
  ⟨below_setRow h.1 (Nat.le_refl _) cs, fun k hk hne => (setRow_other _ _ _ _ hne).trans (h.2 k hk hne)⟩
theorem eq_sV (x y : List UInt8) : (x != y) = !decide (x = y) := by rw [bne, beq_dec]
set_option maxRecDepth 100000 in
set_option maxHeartbeats 8000000 in
theorem act_c (lb : Nat) (x : List UInt8) (ws : List (List UInt8)) (hws : ∀ y ∈ ws, y.length ≤ 1000000) (w : World) (h : LineIs w lb (x :: ws) false) :
    Calls Tryd.prog 26 #[.pointer (some ⟨lb, 0, none⟩)] w (ActP lb (x :: ws) w) := by
  obtain ⟨r, hr⟩ : ∃ r, r = w.heap.size := ⟨_, rfl⟩
  have HR0 : Hid ((w.alloc (.cells (actA zeroAct nilV) 44)).heap[r]? = some (.cells (actA zeroAct nilV) 44 (0, 0))) := by rw [hr]; exact heap_new' _ _
  have HBE : Hid (Below lb w (w.alloc (.cells (actA zeroAct nilV) 44))) := (Below.refl _ _).alloc (Nat.le_of_lt h.lt) _
  have HLB : Hid (lb < r) := by rw [hr]; exact h.lt
  have HL0 : Hid (LineIs (w.alloc (.cells (actA zeroAct nilV) 44)) lb (x :: ws) false) := h.far ((Below.refl _ _).alloc (by have := h.lt; omega) _)
  have HWS := Lib.hid hws
  have HNM := Lib.hid (fun k hk w => name31_c k hk w)
  rw [show (actA zeroAct nilV) = #[.int .i64 0, .bool false, .int .i64 0, .int .i64 0, .int .i64 0, .int .i64 0, .slice none 0 0] from rfl] at HR0 HBE HL0
  clear h hws
  go_enter Tryd.func26, Tryd.ntmps26
  go_wp2_with fail
  rw [← hr]
  clear hr
  generalize w.alloc (.cells #[.int .i64 0, .bool false, .int .i64 0, .int .i64 0, .int .i64 0, .int .i64 0, .slice none 0 0] 44) = w0 at *
  refine (next_c lb _ _ w0 HL0.out).mono ?_
  rintro e w1 ⟨rfl, hl1, hs1⟩
  have HR1 : Hid (w1.heap[r]? = some (.cells #[.int .i64 0, .bool false, .int .i64 0, .int .i64 0, .int .i64 0, .int .i64 0, .slice none 0 0] 44 (0, 0))) := (hs1.2 r (lt_of_block HR0.out) (by have := HLB.out; omega)).trans HR0.out
  have HBE1 : Hid (Below lb w w1) := HBE.out.trans hs1.1
  have HL1 : Hid (LineIs w1 lb ws false) := hl1
  clear hl1 hs1 HR0 HL0 HBE
  rw [List.headD_cons]
  obtain ⟨A1, hA1⟩ : ∃ A1, A1 = w1.heap.size := ⟨_, rfl⟩
  have HA1 := Lib.hid hA1
  clear hA1
  go_wp2
  go_loop [5] (fun vk => ∃ k : Nat, k ≤ 20 ∧ vk = .int .i64 (k : Int) ∧ Hid (∀ j, j < k → nameK j ≠ x)) (fun vk => 20 - (intOf vk).toNat)
  case atStart => exact ⟨0, by omega, rfl, fun j h => by omega⟩
  case round =>
    obtain ⟨k, hk, rfl, hne⟩ := hrel
    by_cases hlt : k < 20
    · have hd : decide ((k : Int) ≤ 19) = true := by simp; omega
      have dl : (k : Int) ≤ 19 := by omega
      have ek : IntKind.i64.wrap ((k : Int) + 1) = (k : Int) + 1 := IntWalk.i64_in _ (by omega)
      have HK := Lib.hid hlt
      have HNK := Lib.hid (HNM.out k hlt)
      have hol := order_len k
      have HSG := Lib.hid (order_signs k)
      obtain ⟨f, hf⟩ : ∃ f, f = orderK k := ⟨_, rfl⟩
      obtain ⟨nm, hnm⟩ : ∃ x, x = nameK k := ⟨_, rfl⟩
      rw [← hf, ← hnm] at HNK
      rw [← hf] at HSG hol
      have HF := Lib.hid (And.intro hf hnm)
      clear hf hnm hlt
      by_cases hx : nm = x
      · have HX := Lib.hid hx
        have dx : decide (nm = x) = true := by simpa using hx
        have HKN : Hid (kindN x = some k) := kindN_hit HK.out (by rw [← HF.out.2]; exact hx) hne.out
        have HAN : Hid (actN (x :: ws) = endN (foldN (stN false (startA k) ws) f)) := by show _ = _; rw [actN_cons, HKN.out, HF.out.1]; rfl
        have bx : (nm != x) = false := by rw [eq_sV, dx]; rfl
        clear hx hne
        go_wp2_with fail
        refine (HNK.out w1).mono ?_
        rintro e w2 ⟨rfl, rfl⟩
        clear hk hd dl ek
        have HN0 : Hid ((w1.alloc (.cells #[.int .i64 0, .bool false, .int .i64 0, .int .i64 0, .int .i64 0, .int .i64 0, .slice none 0 0] 44)).heap[A1]? = some (.cells #[.int .i64 0, .bool false, .int .i64 0, .int .i64 0, .int .i64 0, .int .i64 0, .slice none 0 0] 44 (0, 0))) := by rw [HA1.out]; exact heap_new' _ _
        go_upto_region 8 with (first
          | (refine wpList_store_row rfl 44 (.tmp 8) (.tmp 26) rfl w1.heap.size (actA (startA k) nilV) rfl rfl 44 _ (heap_new' _ _) (by rw [act44]; rfl) (by rfl) (actA_one _ _ _ _) ?_)
          | fail)
        clear HN0
        have hz1 : (w1.alloc (.cells #[.int .i64 0, .bool false, .int .i64 0, .int .i64 0, .int .i64 0, .int .i64 0, .slice none 0 0] 44)).heap.size = A1 + 1 := by rw [HA1.out]; simp
        have HC2 : Hid (((w1.alloc (.cells #[.int .i64 0, .bool false, .int .i64 0, .int .i64 0, .int .i64 0, .int .i64 0, .slice none 0 0] 44)).setRow w1.heap.size (actA (startA k) nilV)).heap[w1.heap.size]? = some (.cells (actA (startA k) nilV) 44 (0, 0))) := setRow_heap _ _ _ _ _ _ (heap_new' _ _)
        have hr1 := lt_of_block HR1.out
        have HR2 : Hid (((w1.alloc (.cells #[.int .i64 0, .bool false, .int .i64 0, .int .i64 0, .int .i64 0, .int .i64 0, .slice none 0 0] 44)).setRow w1.heap.size (actA (startA k) nilV)).heap[r]? = some (.cells #[.int .i64 0, .bool false, .int .i64 0, .int .i64 0, .int .i64 0, .int .i64 0, .slice none 0 0] 44 (0, 0))) := (setRow_other _ _ _ _ (by omega)).trans ((heap_old' _ _ _ hr1).trans HR1.out)
        have HB2 : Hid (Below w1.heap.size w1 ((w1.alloc (.cells #[.int .i64 0, .bool false, .int .i64 0, .int .i64 0, .int .i64 0, .int .i64 0, .slice none 0 0] 44)).setRow w1.heap.size (actA (startA k) nilV))) := below_setRow ((Below.refl _ _).alloc (Nat.le_refl _) _) (Nat.le_refl _) _
        have HRA : Hid (r < A1) := by rw [HA1.out]; exact hr1
        generalize (w1.alloc (.cells #[.int .i64 0, .bool false, .int .i64 0, .int .i64 0, .int .i64 0, .int .i64 0, .slice none 0 0] 44)).setRow w1.heap.size (actA (startA k) nilV) = w2 at *
        rw [← HA1.out] at HC2 HB2 ⊢
        have HAT2 : Hid (ActAt w2 A1 (startA k)) := ⟨none, 0, HC2.out, ⟨(fun x h => by cases h), (fun h => by cases h)⟩, fun _ => rfl, (fun _ _ _ h => by cases h)⟩
        have HL2 : Hid (LineIs w2 lb ws false) := HL1.out.far (HB2.out.mono (by have := HLB.out; have := HRA.out; omega))
        have HBE2 : Hid (Below lb w w2) := HBE1.out.trans (HB2.out.mono (by have := HLB.out; have := HRA.out; omega))
        obtain ⟨it, hit0⟩ : ∃ it, it = w2.heap.size := ⟨_, rfl⟩
        have HIT := Lib.hid hit0
        have HAI : Hid (A1 < it) := by rw [hit0]; exact lt_of_block HC2.out
        have HI0 : Hid ((w2.iter ⟨f.toArray⟩ 0).heap[it]? = some (.stringIter ⟨f.toArray⟩ 0)) := by rw [hit0]; exact World.iter_heap _ _ _
        have HR3 : Hid ((w2.iter ⟨f.toArray⟩ 0).heap[r]? = some (.cells #[.int .i64 0, .bool false, .int .i64 0, .int .i64 0, .int .i64 0, .int .i64 0, .slice none 0 0] 44 (0, 0))) := (heap_old' _ _ _ (lt_of_block HR2.out)).trans HR2.out
        have HBI : Hid (Below w2.heap.size w2 (w2.iter ⟨f.toArray⟩ 0)) := (Below.refl _ _).alloc (Nat.le_refl _) _
        have HLT2 : Hid (lb < A1) := Nat.lt_trans HLB.out HRA.out
        have HL3 : Hid (LineIs (w2.iter ⟨f.toArray⟩ 0) lb ws false) := HL2.out.far (HBI.out.mono (by have := HLT2.out; have := HAI.out; have := HIT.out; omega))
        have HAT3 : Hid (ActAt (w2.iter ⟨f.toArray⟩ 0) A1 (startA k)) := ⟨none, 0, (HBI.out.block _ (lt_of_block HC2.out)).trans HC2.out, ⟨(fun x h => by cases h), (fun h => by cases h)⟩, fun _ => rfl, (fun _ _ _ h => by cases h)⟩
        have HBE3 : Hid (Below lb w (w2.iter ⟨f.toArray⟩ 0)) := HBE2.out.trans (HBI.out.mono (by have := HLT2.out; have := HAI.out; have := HIT.out; omega))
        have hrg : ∀ w : World, (Instr.range 9 (sV f)).run Tryd.prog w = .ok (.pointer (some ⟨w.heap.size, 0, none⟩)) (w.iter ⟨f.toArray⟩ 0) := fun w => run_range_string w 9 _ Tryd.underlying9
        obtain ⟨n, hn⟩ : ∃ n, n = f.length := ⟨_, rfl⟩
        have HN := Lib.hid hn
        obtain ⟨G, hG⟩ : ∃ G, G = foldN (stN false (startA k) ws) f := ⟨_, rfl⟩
        have HG := Lib.hid hG
        rw [← hG] at HAN
        clear hit0 hn hG hol hz1 hr1 HC2 HB2 HR2 HL2 HAT2 HBE2 HBI HNK HX HKN HNM dx bx HBE1 HR1 HL1 HA1
        go_wp2
        rw [← HIT.out]
        clear hrg HIT
        generalize w2.iter ⟨f.toArray⟩ 0 = w3 at *
        go_loopw [10] (fun _ wr => ∃ (pos : Nat) (a : AN) (bad : Bool) (rest : List (List UInt8)), pos ≤ n ∧ Hid (wr.heap[it]? = some (.stringIter ⟨f.toArray⟩ pos)) ∧ Hid (LineIs wr lb rest bad) ∧ Hid (ActAt wr A1 a) ∧ Hid (G = foldN (stN bad a rest) (f.drop pos)) ∧ Hid (wr.heap[r]? = some (.cells #[.int .i64 0, .bool false, .int .i64 0, .int .i64 0, .int .i64 0, .int .i64 0, .slice none 0 0] 44 (0, 0))) ∧ Hid (Below lb w wr) ∧ Hid (∀ y ∈ rest, y.length ≤ 1000000)) (fun _ wr => n - wr.iterPos it)
        case atStart => exact ⟨0, startA k, false, ws, Nat.zero_le _, HI0.out, HL3.out, HAT3.out, by rw [List.drop_zero]; exact HG.out, HR3.out, HBE3.out, HWS.out⟩
        case round =>
          clear HI0 HL3 HAT3 HG HR3 HBE3 HWS
          obtain ⟨pos, a, bad, rest, hpos, hit, hl, ha, hfold, hrw, hbel, hrl⟩ := hrel
          have HS : Hid ((ByteArray.mk f.toArray).size = n) := HN.out.symm
          by_cases hp : pos < n
          · obtain ⟨c, hc⟩ : ∃ c, c = (f.getD pos 0).toNat := ⟨_, rfl⟩
            have hpf : pos < f.length := by rw [← HN.out]; exact hp
            have HC7 : Hid (c = 119 ∨ c = 107 ∨ c = 110 ∨ c = 97 ∨ c = 98 ∨ c = 111 ∨ c = 115) := by
              show _ ∨ _
              rw [hc, List.getD_eq_getElem?_getD, List.getElem?_eq_getElem hpf]
              exact HSG.out _ (List.getElem_mem _)
            have hge : ∀ h, ((ByteArray.mk f.toArray)[pos]'h).toNat = c := fun h => by
              rw [hc, List.getD_eq_getElem?_getD, List.getElem?_eq_getElem hpf]
              rfl
            have hnext : ∀ ty, (Instr.next (.pointer (some ⟨it, 0, none⟩)) true ty).run Tryd.prog wr = .ok (.tuple #[.bool true, .int .i64 (pos : Int), .int .i32 (c : Int)]) (wr.iterAt it ⟨f.toArray⟩ (pos + 1)) := fun ty => by
              have h := Lib.run_next_ascii_at (P := Tryd.prog) wr it ⟨f.toArray⟩ pos ty hit.out (by rw [HS.out]; exact hp) (by rw [hge]; have := HC7.out; omega)
              rw [hge] at h
              exact h
            have HIT1 : Hid ((wr.iterAt it ⟨f.toArray⟩ (pos + 1)).heap[it]? = some (.stringIter ⟨f.toArray⟩ (pos + 1))) := Lib.iterAt_heap wr it ⟨f.toArray⟩ pos (pos + 1) hit.out
            have HL4 : Hid (LineIs (wr.iterAt it ⟨f.toArray⟩ (pos + 1)) lb rest bad) := hl.out.iter (Nat.lt_trans HLT2.out HAI.out) _
            have HA4 : Hid (ActAt (wr.iterAt it ⟨f.toArray⟩ (pos + 1)) A1 a) := ha.out.iter hit.out _
            have HR4 : Hid ((wr.iterAt it ⟨f.toArray⟩ (pos + 1)).heap[r]? = some (.cells #[.int .i64 0, .bool false, .int .i64 0, .int .i64 0, .int .i64 0, .int .i64 0, .slice none 0 0] 44 (0, 0))) := (Lib.iterAt_other _ _ _ _ _ (by have := HRA.out; have := HAI.out; omega)).trans hrw.out
            have HB4 : Hid (Below lb w (wr.iterAt it ⟨f.toArray⟩ (pos + 1))) := Lib.below_iterAt hbel.out (Nat.le_of_lt (Nat.lt_trans HLT2.out HAI.out)) _ _
            have HMU : Hid (wr.iterPos it = pos) := by show _ = _; simp [World.iterPos, hit.out]
            have HFO : Hid (G = foldN (stepN (stN bad a rest) c) (f.drop (pos + 1))) := by show _ = _; rw [hfold.out, foldN_drop _ _ _ hpf, hc]
            have HP := Lib.hid hp
            have HRL := Lib.hid (fun y hy => hrl.out y (List.mem_of_mem_tail hy))
            clear hc hpf hge hit hl ha hrw hbel hfold hp hpos
            obtain ⟨W1, hW1⟩ : ∃ W1, W1 = wr.iterAt it ⟨f.toArray⟩ (pos + 1) := ⟨_, rfl⟩
            rw [← hW1] at hnext HIT1 HL4 HA4 HR4 HB4
            clear hW1
            go_wp2_with fail
            refine (take_c lb A1 c HC7.out HLT2.out a rest bad hrl.out W1 HL4.out HA4.out).mono ?_
            rintro e w4 ⟨rfl, a', b2, hl5, ha5, hst5, hs5⟩
            have HIT5 : Hid (w4.heap[it]? = some (.stringIter ⟨f.toArray⟩ (pos + 1))) := (hs5.2 it (lt_of_block HIT1.out) (by have := HLT2.out; have := HAI.out; omega) (by have := HAI.out; omega)).trans HIT1.out
            have HR5 : Hid (w4.heap[r]? = some (.cells #[.int .i64 0, .bool false, .int .i64 0, .int .i64 0, .int .i64 0, .int .i64 0, .slice none 0 0] 44 (0, 0))) := (hs5.2 r (lt_of_block HR4.out) (by have := HLB.out; omega) (by have := HRA.out; omega)).trans HR4.out
            have HB5 : Hid (Below lb w w4) := HB4.out.trans hs5.1
            have HF5 : Hid (G = foldN (stN b2 a' rest.tail) (f.drop (pos + 1))) := by show _ = _; rw [HFO.out, hst5]
            have HL5 := Lib.hid hl5
            have HA5 := Lib.hid ha5
            clear hl5 ha5 hst5 hs5 HIT1 HL4 HA4 HR4 HB4 HFO hnext
            go_wp2
            go_roundw
            case rel => exact ⟨pos + 1, a', b2, rest.tail, by have := HP.out; omega, HIT5.out, HL5.out, HA5.out, HF5.out, HR5.out, HB5.out, HRL.out⟩
            case measure => rw [HMU.out, show w4.iterPos it = pos + 1 by simp [World.iterPos, HIT5.out]]; have := HP.out; omega
          · have hnext : ∀ ty, (Instr.next (.pointer (some ⟨it, 0, none⟩)) true ty).run Tryd.prog wr = .ok (.tuple #[.bool false]) wr := fun ty => Lib.run_next_end_at wr it ⟨f.toArray⟩ pos ty hit.out (by rw [HS.out]; exact hp)
            have HGE : Hid (G = stN bad a rest) := by
              show _ = _
              rw [hfold.out, List.drop_of_length_le (by rw [← HN.out]; omega)]; rfl
            have HACT := Lib.hid ha.out
            have HLIN := Lib.hid hl.out
            clear hit ha hl hp hpos hrl hfold
            go_upto_region 12 with fail
            obtain ⟨va, vc, hab, hby, hnil, hgt⟩ := HACT.out
            obtain ⟨lv, hlb, hst⟩ := HLIN.out
            obtain ⟨la, lcap, hlv, _, _, _, _⟩ := hst
            subst hlv
            have HAC := Lib.hid hab
            have HLC := Lib.hid hlb
            have HNE : Hid (A1 ≠ r ∧ lb ≠ r) := ⟨by have := HRA.out; omega, by have := HLB.out; omega⟩
            have HABW : Hid (A1 < wr.heap.size) := lt_of_block hab
            have HLBW : Hid (lb < wr.heap.size) := lt_of_block hlb
            have HNI := Lib.hid hnil
            have HBY := Lib.hid hby
            have HGT := Lib.hid hgt
            clear hab hlb hnil hby hgt hnext HACT HLIN HN HSG HS HF
            cases bad with
            | true =>
              have HRD : Hid (wr.drew.heap[r]? = some (.cells #[.int .i64 0, .bool false, .int .i64 0, .int .i64 0, .int .i64 0, .int .i64 0, .slice none 0 0] 44 (0, 0))) := hrw.out
              have HZD : Hid (r < wr.drew.heap.size) := lt_of_block hrw.out
              refine wp_region_held_drew (S := fun w' => Save r r wr w') (by kernel_rfl) (show Save r r wr wr.drew from ⟨(Below.refl _ _).drew, fun _ _ _ => rfl⟩) ?_
              intro hS
              generalize wr.drew = WD at hS HRD HZD ⊢
              change wpAnyH _ _ _ _ _ 20 #[false, false, false, false, false, false, false, false, false, false, false, false, false, false, false, false, false, false, false, false] _ _
              refine wpAnyH_take (i := 0) rfl (by kernel_rfl) (by kernel_rfl) (by kernel_rfl) (fun _ _ _ h => h) (yieldsIf_load_mid (by rfl) _ _ rfl A1 0 rfl (actA a (.slice va a.b.length vc)).toList _ (fun w' h => range_row ((h.2 A1 HABW.out HNE.out.1).trans HAC.out)) Tryd.underlying44 rfl (by rw [act44]; rfl)) hS ?_
              simp only [List.getElem_toArray, List.getElem_cons_succ, List.getElem_cons_zero, Act.put, List.setIfInBounds_toArray, List.set_cons_zero, List.set_cons_succ]
              change wpAnyH _ _ _ _ _ 19 #[true, false, false, false, false, false, false, false, false, false, false, false, false, false, false, false, false, false, false, false] _ _
              refine wpAnyH_take (i := 1) (v := ?_) rfl (by kernel_rfl) (by kernel_rfl) (by kernel_rfl) (fun _ _ _ h => h) (Or.inl ⟨by rfl, ?hy⟩) hS ?_
              case hy => intro w' hSw; go_simp; try with_reducible rfl
              simp only [List.getElem_toArray, List.getElem_cons_succ, List.getElem_cons_zero, Act.put, List.setIfInBounds_toArray, List.set_cons_zero, List.set_cons_succ]
              change wpAnyH _ _ _ _ _ 18 #[true, true, false, false, false, false, false, false, false, false, false, false, false, false, false, false, false, false, false, false] _ _
              refine wpAnyH_take (i := 2) (v := ?_) rfl (by kernel_rfl) (by kernel_rfl) (by kernel_rfl) (fun _ _ _ h => h) (Or.inl ⟨by rfl, ?hy⟩) hS ?_
              case hy => intro w' hSw; go_simp; try with_reducible rfl
              simp only [List.getElem_toArray, List.getElem_cons_succ, List.getElem_cons_zero, Act.put, List.setIfInBounds_toArray, List.set_cons_zero, List.set_cons_succ]
              change wpAnyH _ _ _ _ _ 17 #[true, true, true, false, false, false, false, false, false, false, false, false, false, false, false, false, false, false, false, false] _ _
              refine wpAnyH_take (i := 3) (v := ?_) rfl (by kernel_rfl) (by kernel_rfl) (by kernel_rfl) (fun _ _ _ h => h) (Or.inl ⟨by rfl, ?hy⟩) hS ?_
              case hy => intro w' hSw; go_simp; try with_reducible rfl
              simp only [List.getElem_toArray, List.getElem_cons_succ, List.getElem_cons_zero, Act.put, List.setIfInBounds_toArray, List.set_cons_zero, List.set_cons_succ]
              change wpAnyH _ _ _ _ _ 16 #[true, true, true, true, false, false, false, false, false, false, false, false, false, false, false, false, false, false, false, false] _ _
              refine wpAnyH_take (i := 4) (v := ?_) rfl (by kernel_rfl) (by kernel_rfl) (by kernel_rfl) (fun _ _ _ h => h) (Or.inl ⟨by rfl, ?hy⟩) hS ?_
              case hy => intro w' hSw; have hc := (cells_at ((hSw.2 lb HLBW.out HNE.out.2).trans HLC.out) 1).trans (show _ = some (Value.bool true) from rfl); go_simp; try with_reducible rfl
              simp only [List.getElem_toArray, List.getElem_cons_succ, List.getElem_cons_zero, Act.put, List.setIfInBounds_toArray, List.set_cons_zero, List.set_cons_succ]
              change wpAnyH _ _ _ _ _ 15 #[true, true, true, true, true, false, false, false, false, false, false, false, false, false, false, false, false, false, false, false] _ _
              refine wpAnyH_take (i := 5) (v := ?_) rfl (by kernel_rfl) (by kernel_rfl) (by kernel_rfl) (fun _ _ _ h => h) (Or.inl ⟨by rfl, ?hy⟩) hS ?_
              case hy => intro w' hSw; go_simp; try with_reducible rfl
              simp only [List.getElem_toArray, List.getElem_cons_succ, List.getElem_cons_zero, Act.put, List.setIfInBounds_toArray, List.set_cons_zero, List.set_cons_succ]
              change wpAnyH _ _ _ _ _ 14 #[true, true, true, true, true, true, false, false, false, false, false, false, false, false, false, false, false, false, false, false] _ _
              refine wpAnyH_take (i := 6) (v := ?_) rfl (by kernel_rfl) (by kernel_rfl) (by kernel_rfl) (fun _ _ _ h => h) (Or.inl ⟨by rfl, ?hy⟩) hS ?_
              case hy => intro w' hSw; go_simp; try with_reducible rfl
              simp only [List.getElem_toArray, List.getElem_cons_succ, List.getElem_cons_zero, Act.put, List.setIfInBounds_toArray, List.set_cons_zero, List.set_cons_succ]
              change wpAnyH _ _ _ _ _ 13 #[true, true, true, true, true, true, true, false, false, false, false, false, false, false, false, false, false, false, false, false] _ _
              refine wpAnyH_take (i := 7) rfl (by kernel_rfl) (by kernel_rfl) (by kernel_rfl) (fun _ _ _ h => h) (Or.inr ⟨by rfl, rfl⟩) hS ?_
              simp only [List.getElem_toArray, List.getElem_cons_succ, List.getElem_cons_zero, Act.put, List.setIfInBounds_toArray, List.set_cons_zero, List.set_cons_succ]
              change wpAnyH _ _ _ _ _ 12 #[true, true, true, true, true, true, true, true, false, false, false, false, false, false, false, false, false, false, false, false] _ _
              refine wpAnyH_take (i := 8) rfl (by kernel_rfl) (by kernel_rfl) (by kernel_rfl) (fun _ _ _ h => h) (Or.inr ⟨by rfl, rfl⟩) hS ?_
              simp only [List.getElem_toArray, List.getElem_cons_succ, List.getElem_cons_zero, Act.put, List.setIfInBounds_toArray, List.set_cons_zero, List.set_cons_succ]
              change wpAnyH _ _ _ _ _ 11 #[true, true, true, true, true, true, true, true, true, false, false, false, false, false, false, false, false, false, false, false] _ _
              refine wpAnyH_take (i := 9) rfl (by kernel_rfl) (by kernel_rfl) (by kernel_rfl) (fun _ _ _ h => h) (Or.inr ⟨by rfl, rfl⟩) hS ?_
              simp only [List.getElem_toArray, List.getElem_cons_succ, List.getElem_cons_zero, Act.put, List.setIfInBounds_toArray, List.set_cons_zero, List.set_cons_succ]
              change wpAnyH _ _ _ _ _ 10 #[true, true, true, true, true, true, true, true, true, true, false, false, false, false, false, false, false, false, false, false] _ _
              refine wpAnyH_take (i := 10) rfl (by kernel_rfl) (by kernel_rfl) (by kernel_rfl) (fun _ _ _ h => h) (Or.inr ⟨by rfl, rfl⟩) hS ?_
              simp only [List.getElem_toArray, List.getElem_cons_succ, List.getElem_cons_zero, Act.put, List.setIfInBounds_toArray, List.set_cons_zero, List.set_cons_succ]
              change wpAnyH _ _ _ _ _ 9 #[true, true, true, true, true, true, true, true, true, true, true, false, false, false, false, false, false, false, false, false] _ _
              refine wpAnyH_take (i := 11) rfl (by kernel_rfl) (by kernel_rfl) (by kernel_rfl) (fun _ _ _ h => h) (Or.inr ⟨by rfl, rfl⟩) hS ?_
              simp only [List.getElem_toArray, List.getElem_cons_succ, List.getElem_cons_zero, Act.put, List.setIfInBounds_toArray, List.set_cons_zero, List.set_cons_succ]
              change wpAnyH _ _ _ _ _ 8 #[true, true, true, true, true, true, true, true, true, true, true, true, false, false, false, false, false, false, false, false] _ _
              refine wpAnyH_take (i := 12) rfl (by kernel_rfl) (by kernel_rfl) (by kernel_rfl) (fun _ _ _ h => h) (Or.inr ⟨by rfl, rfl⟩) hS ?_
              simp only [List.getElem_toArray, List.getElem_cons_succ, List.getElem_cons_zero, Act.put, List.setIfInBounds_toArray, List.set_cons_zero, List.set_cons_succ]
              change wpAnyH _ _ _ _ _ 7 #[true, true, true, true, true, true, true, true, true, true, true, true, true, false, false, false, false, false, false, false] _ _
              refine wpAnyH_take (i := 13) (v := ?_) rfl (by kernel_rfl) (by kernel_rfl) (by kernel_rfl) (fun _ _ _ h => h) (Or.inl ⟨by rfl, ?hy⟩) hS ?_
              case hy => intro w' hSw; go_simp; try with_reducible rfl
              simp only [List.getElem_toArray, List.getElem_cons_succ, List.getElem_cons_zero, Act.put, List.setIfInBounds_toArray, List.set_cons_zero, List.set_cons_succ]
              change wpAnyH _ _ _ _ _ 6 #[true, true, true, true, true, true, true, true, true, true, true, true, true, true, false, false, false, false, false, false] _ _
              refine wpAnyH_take (i := 14) (v := ?_) rfl (by kernel_rfl) (by kernel_rfl) (by kernel_rfl) (fun _ _ _ h => h) (Or.inl ⟨by rfl, ?hy⟩) hS ?_
              case hy => intro w' hSw; go_simp; try with_reducible rfl
              simp only [List.getElem_toArray, List.getElem_cons_succ, List.getElem_cons_zero, Act.put, List.setIfInBounds_toArray, List.set_cons_zero, List.set_cons_succ]
              change wpAnyH _ _ _ _ _ 5 #[true, true, true, true, true, true, true, true, true, true, true, true, true, true, true, false, false, false, false, false] _ _
              refine wpAnyH_take (i := 15) rfl (by kernel_rfl) (by kernel_rfl) (by kernel_rfl) (fun _ _ _ h => h) (Or.inr ⟨by rfl, rfl⟩) hS ?_
              simp only [List.getElem_toArray, List.getElem_cons_succ, List.getElem_cons_zero, Act.put, List.setIfInBounds_toArray, List.set_cons_zero, List.set_cons_succ]
              change wpAnyH _ _ _ _ _ 4 #[true, true, true, true, true, true, true, true, true, true, true, true, true, true, true, true, false, false, false, false] _ _
              refine wpAnyH_take (i := 16) rfl (by kernel_rfl) (by kernel_rfl) (by kernel_rfl) (fun _ _ _ h => h) (Or.inr ⟨by rfl, rfl⟩) hS ?_
              simp only [List.getElem_toArray, List.getElem_cons_succ, List.getElem_cons_zero, Act.put, List.setIfInBounds_toArray, List.set_cons_zero, List.set_cons_succ]
              change wpAnyH _ _ _ _ _ 3 #[true, true, true, true, true, true, true, true, true, true, true, true, true, true, true, true, true, false, false, false] _ _
              refine wpAnyH_take (i := 17) (v := ?_) rfl (by kernel_rfl) (by kernel_rfl) (by kernel_rfl) (fun _ _ _ h => h) (Or.inl ⟨by rfl, ?hy⟩) hS ?_
              case hy => intro w' hSw; go_simp; try with_reducible rfl
              simp only [List.getElem_toArray, List.getElem_cons_succ, List.getElem_cons_zero, Act.put, List.setIfInBounds_toArray, List.set_cons_zero, List.set_cons_succ]
              change wpAnyH _ _ _ _ _ 2 #[true, true, true, true, true, true, true, true, true, true, true, true, true, true, true, true, true, true, false, false] _ _
              refine wpAnyH_ready (rs := [18]) (by kernel_rfl) (by simp) ?_
              refine AllReadyH.cons rfl (fun K hK => ?_) AllReadyH.nil
              rw [if_pos (by rfl)]
              refine wp_store_row 44 (.tmp 2) (.tmp 35) rfl r (actA a (.slice va a.b.length vc)) rfl rfl 44 _ HRD.out (by rw [act44]; rfl) (by rfl) (actA_one _ _ _ _) ?_
              refine hK.out _ _ (save_row hS _) (fun hSz => ?_)
              clear hK K
              simp only [List.getElem_toArray, List.getElem_cons_succ, List.getElem_cons_zero, Act.put, List.setIfInBounds_toArray, List.set_cons_zero, List.set_cons_succ]
              change wpAnyH _ _ _ _ _ 1 #[true, true, true, true, true, true, true, true, true, true, true, true, true, true, true, true, true, true, true, false] _ _
              refine wpAnyH_take (i := 19) (v := ?_) rfl (by kernel_rfl) (by kernel_rfl) (by kernel_rfl) (fun _ _ _ h => h) (Or.inl ⟨by rfl, ?hy⟩) hSz ?_
              case hy => intro w' hSw; go_simp; try with_reducible rfl
              simp only [List.getElem_toArray, List.getElem_cons_succ, List.getElem_cons_zero, Act.put, List.setIfInBounds_toArray, List.set_cons_zero, List.set_cons_succ]
              change wpAnyH _ _ _ _ _ 0 #[true, true, true, true, true, true, true, true, true, true, true, true, true, true, true, true, true, true, true, true] _ _
              refine wpAnyH_done (by kernel_rfl) ?_ _
              go_wp2_with fail
              refine bodyPost_ret (results_row_tmp rfl _ _ r 44 (actA a (.slice va a.b.length vc)) (0, 0) _ rfl (setRow_heap _ _ _ _ _ _ HRD.out) Tryd.underlying44 rfl (by rw [act44]; rfl)) rfl ?_
              refine ⟨hbel.out.trans (hSz.1.mono (Nat.le_of_lt HLB.out)), a, va, vc, ?_, ?_⟩
              · rw [HAN.out, HGE.out, end_of, if_neg (fun h => by cases h.1)]; rfl
              · intro a' ha'
                rw [HAN.out, HGE.out, end_of, if_neg (fun h => by cases h.1)] at ha'; cases ha'
            | false =>
              cases rest with
              | nil =>
                have HLC0 : Hid (wr.heap[lb]? = some (.cells #[.slice la 0 lcap, .bool false] 58 (0, 0))) := HLC.out
                have HRD : Hid (wr.drew.heap[r]? = some (.cells #[.int .i64 0, .bool false, .int .i64 0, .int .i64 0, .int .i64 0, .int .i64 0, .slice none 0 0] 44 (0, 0))) := hrw.out
                have HZD : Hid (r < wr.drew.heap.size) := lt_of_block hrw.out
                refine wp_region_held_drew (S := fun w' => Save r r wr w') (by kernel_rfl) (show Save r r wr wr.drew from ⟨(Below.refl _ _).drew, fun _ _ _ => rfl⟩) ?_
                intro hS
                generalize wr.drew = WD at hS HRD HZD ⊢
                change wpAnyH _ _ _ _ _ 20 #[false, false, false, false, false, false, false, false, false, false, false, false, false, false, false, false, false, false, false, false] _ _
                refine wpAnyH_take (i := 0) rfl (by kernel_rfl) (by kernel_rfl) (by kernel_rfl) (fun _ _ _ h => h) (yieldsIf_load_mid (by rfl) _ _ rfl A1 0 rfl (actA a (.slice va a.b.length vc)).toList _ (fun w' h => range_row ((h.2 A1 HABW.out HNE.out.1).trans HAC.out)) Tryd.underlying44 rfl (by rw [act44]; rfl)) hS ?_
                simp only [List.getElem_toArray, List.getElem_cons_succ, List.getElem_cons_zero, Act.put, List.setIfInBounds_toArray, List.set_cons_zero, List.set_cons_succ]
                change wpAnyH _ _ _ _ _ 19 #[true, false, false, false, false, false, false, false, false, false, false, false, false, false, false, false, false, false, false, false] _ _
                refine wpAnyH_take (i := 1) (v := ?_) rfl (by kernel_rfl) (by kernel_rfl) (by kernel_rfl) (fun _ _ _ h => h) (Or.inl ⟨by rfl, ?hy⟩) hS ?_
                case hy => intro w' hSw; go_simp; try with_reducible rfl
                simp only [List.getElem_toArray, List.getElem_cons_succ, List.getElem_cons_zero, Act.put, List.setIfInBounds_toArray, List.set_cons_zero, List.set_cons_succ]
                change wpAnyH _ _ _ _ _ 18 #[true, true, false, false, false, false, false, false, false, false, false, false, false, false, false, false, false, false, false, false] _ _
                refine wpAnyH_take (i := 2) (v := ?_) rfl (by kernel_rfl) (by kernel_rfl) (by kernel_rfl) (fun _ _ _ h => h) (Or.inl ⟨by rfl, ?hy⟩) hS ?_
                case hy => intro w' hSw; go_simp; try with_reducible rfl
                simp only [List.getElem_toArray, List.getElem_cons_succ, List.getElem_cons_zero, Act.put, List.setIfInBounds_toArray, List.set_cons_zero, List.set_cons_succ]
                change wpAnyH _ _ _ _ _ 17 #[true, true, true, false, false, false, false, false, false, false, false, false, false, false, false, false, false, false, false, false] _ _
                refine wpAnyH_take (i := 3) (v := ?_) rfl (by kernel_rfl) (by kernel_rfl) (by kernel_rfl) (fun _ _ _ h => h) (Or.inl ⟨by rfl, ?hy⟩) hS ?_
                case hy => intro w' hSw; go_simp; try with_reducible rfl
                simp only [List.getElem_toArray, List.getElem_cons_succ, List.getElem_cons_zero, Act.put, List.setIfInBounds_toArray, List.set_cons_zero, List.set_cons_succ]
                change wpAnyH _ _ _ _ _ 16 #[true, true, true, true, false, false, false, false, false, false, false, false, false, false, false, false, false, false, false, false] _ _
                refine wpAnyH_take (i := 4) (v := ?_) rfl (by kernel_rfl) (by kernel_rfl) (by kernel_rfl) (fun _ _ _ h => h) (Or.inl ⟨by rfl, ?hy⟩) hS ?_
                case hy => intro w' hSw; have hc := (cells_at ((hSw.2 lb HLBW.out HNE.out.2).trans HLC.out) 1).trans (show _ = some (Value.bool false) from rfl); go_simp; try with_reducible rfl
                simp only [List.getElem_toArray, List.getElem_cons_succ, List.getElem_cons_zero, Act.put, List.setIfInBounds_toArray, List.set_cons_zero, List.set_cons_succ]
                change wpAnyH _ _ _ _ _ 15 #[true, true, true, true, true, false, false, false, false, false, false, false, false, false, false, false, false, false, false, false] _ _
                refine wpAnyH_take (i := 5) (v := ?_) rfl (by kernel_rfl) (by kernel_rfl) (by kernel_rfl) (fun _ _ _ h => h) (Or.inl ⟨by rfl, ?hy⟩) hS ?_
                case hy => intro w' hSw; go_simp; try with_reducible rfl
                simp only [List.getElem_toArray, List.getElem_cons_succ, List.getElem_cons_zero, Act.put, List.setIfInBounds_toArray, List.set_cons_zero, List.set_cons_succ]
                change wpAnyH _ _ _ _ _ 14 #[true, true, true, true, true, true, false, false, false, false, false, false, false, false, false, false, false, false, false, false] _ _
                refine wpAnyH_take (i := 6) (v := ?_) rfl (by kernel_rfl) (by kernel_rfl) (by kernel_rfl) (fun _ _ _ h => h) (Or.inl ⟨by rfl, ?hy⟩) hS ?_
                case hy => intro w' hSw; go_simp; try with_reducible rfl
                simp only [List.getElem_toArray, List.getElem_cons_succ, List.getElem_cons_zero, Act.put, List.setIfInBounds_toArray, List.set_cons_zero, List.set_cons_succ]
                change wpAnyH _ _ _ _ _ 13 #[true, true, true, true, true, true, true, false, false, false, false, false, false, false, false, false, false, false, false, false] _ _
                refine wpAnyH_take (i := 7) (v := ?_) rfl (by kernel_rfl) (by kernel_rfl) (by kernel_rfl) (fun _ _ _ h => h) (Or.inl ⟨by rfl, ?hy⟩) hS ?_
                case hy => intro w' hSw; go_simp; try with_reducible rfl
                simp only [List.getElem_toArray, List.getElem_cons_succ, List.getElem_cons_zero, Act.put, List.setIfInBounds_toArray, List.set_cons_zero, List.set_cons_succ]
                change wpAnyH _ _ _ _ _ 12 #[true, true, true, true, true, true, true, true, false, false, false, false, false, false, false, false, false, false, false, false] _ _
                refine wpAnyH_take (i := 8) (v := ?_) rfl (by kernel_rfl) (by kernel_rfl) (by kernel_rfl) (fun _ _ _ h => h) (Or.inl ⟨by rfl, ?hy⟩) hS ?_
                case hy => intro w' hSw; go_simp; try with_reducible rfl
                simp only [List.getElem_toArray, List.getElem_cons_succ, List.getElem_cons_zero, Act.put, List.setIfInBounds_toArray, List.set_cons_zero, List.set_cons_succ]
                change wpAnyH _ _ _ _ _ 11 #[true, true, true, true, true, true, true, true, true, false, false, false, false, false, false, false, false, false, false, false] _ _
                refine wpAnyH_take (i := 9) (v := ?_) rfl (by kernel_rfl) (by kernel_rfl) (by kernel_rfl) (fun _ _ _ h => h) (Or.inl ⟨by rfl, ?hy⟩) hS ?_
                case hy => intro w' hSw; go_simp; try with_reducible rfl
                simp only [List.getElem_toArray, List.getElem_cons_succ, List.getElem_cons_zero, Act.put, List.setIfInBounds_toArray, List.set_cons_zero, List.set_cons_succ]
                change wpAnyH _ _ _ _ _ 10 #[true, true, true, true, true, true, true, true, true, true, false, false, false, false, false, false, false, false, false, false] _ _
                refine wpAnyH_take (i := 10) (v := ?_) rfl (by kernel_rfl) (by kernel_rfl) (by kernel_rfl) (fun _ _ _ h => h) (Or.inl ⟨by rfl, ?hy⟩) hS ?_
                case hy => intro w' hSw; have hc := (cells_at ((hSw.2 lb HLBW.out HNE.out.2).trans HLC.out) 0).trans (show _ = some (Value.slice la 0 lcap) from rfl); go_simp; try with_reducible rfl
                simp only [List.getElem_toArray, List.getElem_cons_succ, List.getElem_cons_zero, Act.put, List.setIfInBounds_toArray, List.set_cons_zero, List.set_cons_succ]
                change wpAnyH _ _ _ _ _ 9 #[true, true, true, true, true, true, true, true, true, true, true, false, false, false, false, false, false, false, false, false] _ _
                refine wpAnyH_take (i := 11) (v := ?_) rfl (by kernel_rfl) (by kernel_rfl) (by kernel_rfl) (fun _ _ _ h => h) (Or.inl ⟨by rfl, ?hy⟩) hS ?_
                case hy => intro w' hSw; go_simp; try with_reducible rfl
                simp only [List.getElem_toArray, List.getElem_cons_succ, List.getElem_cons_zero, Act.put, List.setIfInBounds_toArray, List.set_cons_zero, List.set_cons_succ]
                change wpAnyH _ _ _ _ _ 8 #[true, true, true, true, true, true, true, true, true, true, true, true, false, false, false, false, false, false, false, false] _ _
                refine wpAnyH_take (i := 12) (v := ?_) rfl (by kernel_rfl) (by kernel_rfl) (by kernel_rfl) (fun _ _ _ h => h) (Or.inl ⟨by rfl, ?hy⟩) hS ?_
                case hy => intro w' hSw; go_simp; try with_reducible rfl
                simp only [List.getElem_toArray, List.getElem_cons_succ, List.getElem_cons_zero, Act.put, List.setIfInBounds_toArray, List.set_cons_zero, List.set_cons_succ]
                change wpAnyH _ _ _ _ _ 7 #[true, true, true, true, true, true, true, true, true, true, true, true, true, false, false, false, false, false, false, false] _ _
                refine wpAnyH_take (i := 13) (v := ?_) rfl (by kernel_rfl) (by kernel_rfl) (by kernel_rfl) (fun _ _ _ h => h) (Or.inl ⟨by rfl, ?hy⟩) hS ?_
                case hy => intro w' hSw; go_simp; try with_reducible rfl
                simp only [List.getElem_toArray, List.getElem_cons_succ, List.getElem_cons_zero, Act.put, List.setIfInBounds_toArray, List.set_cons_zero, List.set_cons_succ]
                change wpAnyH _ _ _ _ _ 6 #[true, true, true, true, true, true, true, true, true, true, true, true, true, true, false, false, false, false, false, false] _ _
                refine wpAnyH_take (i := 14) (v := ?_) rfl (by kernel_rfl) (by kernel_rfl) (by kernel_rfl) (fun _ _ _ h => h) (Or.inl ⟨by rfl, ?hy⟩) hS ?_
                case hy => intro w' hSw; go_simp; try with_reducible rfl
                simp only [List.getElem_toArray, List.getElem_cons_succ, List.getElem_cons_zero, Act.put, List.setIfInBounds_toArray, List.set_cons_zero, List.set_cons_succ]
                change wpAnyH _ _ _ _ _ 5 #[true, true, true, true, true, true, true, true, true, true, true, true, true, true, true, false, false, false, false, false] _ _
                refine wpAnyH_take (i := 15) rfl (by kernel_rfl) (by kernel_rfl) (by kernel_rfl) (fun _ _ _ h => h) (yieldsIf_load_mid (by rfl) _ _ rfl A1 0 rfl (actA a (.slice va a.b.length vc)).toList _ (fun w' h => range_row ((h.2 A1 HABW.out HNE.out.1).trans HAC.out)) Tryd.underlying44 rfl (by rw [act44]; rfl)) hS ?_
                simp only [List.getElem_toArray, List.getElem_cons_succ, List.getElem_cons_zero, Act.put, List.setIfInBounds_toArray, List.set_cons_zero, List.set_cons_succ]
                change wpAnyH _ _ _ _ _ 4 #[true, true, true, true, true, true, true, true, true, true, true, true, true, true, true, true, false, false, false, false] _ _
                refine wpAnyH_ready (rs := [16]) (by kernel_rfl) (by simp) ?_
                refine AllReadyH.cons rfl (fun K hK => ?_) AllReadyH.nil
                rw [if_pos (by rfl)]
                go_simp
                refine (smay_c a va a.b.length vc rfl HNI.out WD).mono ?_
                rintro e wa ⟨rfl, hb10⟩
                have HRA2 : Hid (wa.heap[r]? = some (.cells #[.int .i64 0, .bool false, .int .i64 0, .int .i64 0, .int .i64 0, .int .i64 0, .slice none 0 0] 44 (0, 0))) := (hb10.block _ HZD.out).trans HRD.out
                have hbx := hb10.mono (Nat.le_of_lt HZD.out)
                have hSx : Save r r wr wa := ⟨hS.1.trans hbx, fun k hk hne => (hb10.block k (Nat.lt_of_lt_of_le hk hS.1.size)).trans (hS.2 k hk hne)⟩
                refine hK.out _ _ (hSx) (fun hSa => ?_)
                clear hK K
                simp only [List.getElem_toArray, List.getElem_cons_succ, List.getElem_cons_zero, Act.put, List.setIfInBounds_toArray, List.set_cons_zero, List.set_cons_succ]
                change wpAnyH _ _ _ _ _ 3 #[true, true, true, true, true, true, true, true, true, true, true, true, true, true, true, true, true, false, false, false] _ _
                refine wpAnyH_take (i := 17) (v := ?_) rfl (by kernel_rfl) (by kernel_rfl) (by kernel_rfl) (fun _ _ _ h => h) (Or.inl ⟨by rfl, ?hy⟩) hSa ?_
                case hy => intro w' hSw; go_simp; try with_reducible rfl
                simp only [List.getElem_toArray, List.getElem_cons_succ, List.getElem_cons_zero, Act.put, List.setIfInBounds_toArray, List.set_cons_zero, List.set_cons_succ]
                change wpAnyH _ _ _ _ _ 2 #[true, true, true, true, true, true, true, true, true, true, true, true, true, true, true, true, true, true, false, false] _ _
                refine wpAnyH_ready (rs := [18]) (by kernel_rfl) (by simp) ?_
                refine AllReadyH.cons rfl (fun K hK => ?_) AllReadyH.nil
                rw [if_pos (by rfl)]
                refine wp_store_row 44 (.tmp 2) (.tmp 35) rfl r (actA a (.slice va a.b.length vc)) rfl rfl 44 _ HRA2.out (by rw [act44]; rfl) (by rfl) (actA_one _ _ _ _) ?_
                refine hK.out _ _ (save_row hSa _) (fun hSz => ?_)
                clear hK K
                simp only [List.getElem_toArray, List.getElem_cons_succ, List.getElem_cons_zero, Act.put, List.setIfInBounds_toArray, List.set_cons_zero, List.set_cons_succ]
                change wpAnyH _ _ _ _ _ 1 #[true, true, true, true, true, true, true, true, true, true, true, true, true, true, true, true, true, true, true, false] _ _
                refine wpAnyH_take (i := 19) (v := ?_) rfl (by kernel_rfl) (by kernel_rfl) (by kernel_rfl) (fun _ _ _ h => h) (Or.inl ⟨by rfl, ?hy⟩) hSz ?_
                case hy => intro w' hSw; go_simp; try with_reducible rfl
                simp only [List.getElem_toArray, List.getElem_cons_succ, List.getElem_cons_zero, Act.put, List.setIfInBounds_toArray, List.set_cons_zero, List.set_cons_succ]
                change wpAnyH _ _ _ _ _ 0 #[true, true, true, true, true, true, true, true, true, true, true, true, true, true, true, true, true, true, true, true] _ _
                refine wpAnyH_done (by kernel_rfl) ?_ _
                go_wp2_with fail
                refine bodyPost_ret (results_row_tmp rfl _ _ r 44 (actA a (.slice va a.b.length vc)) (0, 0) _ rfl (setRow_heap _ _ _ _ _ _ HRA2.out) Tryd.underlying44 rfl (by rw [act44]; rfl)) rfl ?_
                refine ⟨hbel.out.trans (hSz.1.mono (Nat.le_of_lt HLB.out)), a, va, vc, ?_, ?_⟩
                · rw [HAN.out, HGE.out, end_of]
                  cases hm : mayA a with
                  | true => rw [if_pos ⟨rfl, rfl, rfl⟩]; rfl
                  | false => rw [if_neg (fun h => by cases h.2.2)]; rfl
                · intro a' ha'
                  rw [HAN.out, HGE.out, end_of] at ha'
                  have he : a' = a := by
                    split at ha'
                    · cases ha'; rfl
                    · cases ha'
                  refine ⟨he, bytes_keep HBY.out (fun g o hg hl => hSz.2 g hl (by have h1 := HGT.out _ _ _ hg; have h2 := HRA.out; intro e; subst e; exact absurd (Nat.lt_trans h2 h1) (Nat.lt_irrefl _))), HNI.out, fun g o z hg => Nat.lt_trans HLT2.out (HGT.out g o z hg)⟩
              | cons y rest =>
                obtain ⟨m, hm⟩ : ∃ m, m = (y :: rest).length := ⟨_, rfl⟩
                rw [← hm] at HLC
                have hm1 : ¬ (m : Int) = 0 := by rw [hm, List.length_cons]; omega
                have hm2 : ((m : Int) == 0) = false := by rw [beq_eq_false_iff_ne]; exact hm1
                clear hm
                have HRD : Hid (wr.drew.heap[r]? = some (.cells #[.int .i64 0, .bool false, .int .i64 0, .int .i64 0, .int .i64 0, .int .i64 0, .slice none 0 0] 44 (0, 0))) := hrw.out
                have HZD : Hid (r < wr.drew.heap.size) := lt_of_block hrw.out
                refine wp_region_held_drew (S := fun w' => Save r r wr w') (by kernel_rfl) (show Save r r wr wr.drew from ⟨(Below.refl _ _).drew, fun _ _ _ => rfl⟩) ?_
                intro hS
                generalize wr.drew = WD at hS HRD HZD ⊢
                change wpAnyH _ _ _ _ _ 20 #[false, false, false, false, false, false, false, false, false, false, false, false, false, false, false, false, false, false, false, false] _ _
                refine wpAnyH_take (i := 0) rfl (by kernel_rfl) (by kernel_rfl) (by kernel_rfl) (fun _ _ _ h => h) (yieldsIf_load_mid (by rfl) _ _ rfl A1 0 rfl (actA a (.slice va a.b.length vc)).toList _ (fun w' h => range_row ((h.2 A1 HABW.out HNE.out.1).trans HAC.out)) Tryd.underlying44 rfl (by rw [act44]; rfl)) hS ?_
                simp only [List.getElem_toArray, List.getElem_cons_succ, List.getElem_cons_zero, Act.put, List.setIfInBounds_toArray, List.set_cons_zero, List.set_cons_succ]
                change wpAnyH _ _ _ _ _ 19 #[true, false, false, false, false, false, false, false, false, false, false, false, false, false, false, false, false, false, false, false] _ _
                refine wpAnyH_take (i := 1) (v := ?_) rfl (by kernel_rfl) (by kernel_rfl) (by kernel_rfl) (fun _ _ _ h => h) (Or.inl ⟨by rfl, ?hy⟩) hS ?_
                case hy => intro w' hSw; go_simp; try with_reducible rfl
                simp only [List.getElem_toArray, List.getElem_cons_succ, List.getElem_cons_zero, Act.put, List.setIfInBounds_toArray, List.set_cons_zero, List.set_cons_succ]
                change wpAnyH _ _ _ _ _ 18 #[true, true, false, false, false, false, false, false, false, false, false, false, false, false, false, false, false, false, false, false] _ _
                refine wpAnyH_take (i := 2) (v := ?_) rfl (by kernel_rfl) (by kernel_rfl) (by kernel_rfl) (fun _ _ _ h => h) (Or.inl ⟨by rfl, ?hy⟩) hS ?_
                case hy => intro w' hSw; go_simp; try with_reducible rfl
                simp only [List.getElem_toArray, List.getElem_cons_succ, List.getElem_cons_zero, Act.put, List.setIfInBounds_toArray, List.set_cons_zero, List.set_cons_succ]
                change wpAnyH _ _ _ _ _ 17 #[true, true, true, false, false, false, false, false, false, false, false, false, false, false, false, false, false, false, false, false] _ _
                refine wpAnyH_take (i := 3) (v := ?_) rfl (by kernel_rfl) (by kernel_rfl) (by kernel_rfl) (fun _ _ _ h => h) (Or.inl ⟨by rfl, ?hy⟩) hS ?_
                case hy => intro w' hSw; go_simp; try with_reducible rfl
                simp only [List.getElem_toArray, List.getElem_cons_succ, List.getElem_cons_zero, Act.put, List.setIfInBounds_toArray, List.set_cons_zero, List.set_cons_succ]
                change wpAnyH _ _ _ _ _ 16 #[true, true, true, true, false, false, false, false, false, false, false, false, false, false, false, false, false, false, false, false] _ _
                refine wpAnyH_take (i := 4) (v := ?_) rfl (by kernel_rfl) (by kernel_rfl) (by kernel_rfl) (fun _ _ _ h => h) (Or.inl ⟨by rfl, ?hy⟩) hS ?_
                case hy => intro w' hSw; have hc := (cells_at ((hSw.2 lb HLBW.out HNE.out.2).trans HLC.out) 1).trans (show _ = some (Value.bool false) from rfl); go_simp; try with_reducible rfl
                simp only [List.getElem_toArray, List.getElem_cons_succ, List.getElem_cons_zero, Act.put, List.setIfInBounds_toArray, List.set_cons_zero, List.set_cons_succ]
                change wpAnyH _ _ _ _ _ 15 #[true, true, true, true, true, false, false, false, false, false, false, false, false, false, false, false, false, false, false, false] _ _
                refine wpAnyH_take (i := 5) (v := ?_) rfl (by kernel_rfl) (by kernel_rfl) (by kernel_rfl) (fun _ _ _ h => h) (Or.inl ⟨by rfl, ?hy⟩) hS ?_
                case hy => intro w' hSw; go_simp; try with_reducible rfl
                simp only [List.getElem_toArray, List.getElem_cons_succ, List.getElem_cons_zero, Act.put, List.setIfInBounds_toArray, List.set_cons_zero, List.set_cons_succ]
                change wpAnyH _ _ _ _ _ 14 #[true, true, true, true, true, true, false, false, false, false, false, false, false, false, false, false, false, false, false, false] _ _
                refine wpAnyH_take (i := 6) (v := ?_) rfl (by kernel_rfl) (by kernel_rfl) (by kernel_rfl) (fun _ _ _ h => h) (Or.inl ⟨by rfl, ?hy⟩) hS ?_
                case hy => intro w' hSw; go_simp; try with_reducible rfl
                simp only [List.getElem_toArray, List.getElem_cons_succ, List.getElem_cons_zero, Act.put, List.setIfInBounds_toArray, List.set_cons_zero, List.set_cons_succ]
                change wpAnyH _ _ _ _ _ 13 #[true, true, true, true, true, true, true, false, false, false, false, false, false, false, false, false, false, false, false, false] _ _
                refine wpAnyH_take (i := 7) (v := ?_) rfl (by kernel_rfl) (by kernel_rfl) (by kernel_rfl) (fun _ _ _ h => h) (Or.inl ⟨by rfl, ?hy⟩) hS ?_
                case hy => intro w' hSw; go_simp; try with_reducible rfl
                simp only [List.getElem_toArray, List.getElem_cons_succ, List.getElem_cons_zero, Act.put, List.setIfInBounds_toArray, List.set_cons_zero, List.set_cons_succ]
                change wpAnyH _ _ _ _ _ 12 #[true, true, true, true, true, true, true, true, false, false, false, false, false, false, false, false, false, false, false, false] _ _
                refine wpAnyH_take (i := 8) (v := ?_) rfl (by kernel_rfl) (by kernel_rfl) (by kernel_rfl) (fun _ _ _ h => h) (Or.inl ⟨by rfl, ?hy⟩) hS ?_
                case hy => intro w' hSw; go_simp; try with_reducible rfl
                simp only [List.getElem_toArray, List.getElem_cons_succ, List.getElem_cons_zero, Act.put, List.setIfInBounds_toArray, List.set_cons_zero, List.set_cons_succ]
                change wpAnyH _ _ _ _ _ 11 #[true, true, true, true, true, true, true, true, true, false, false, false, false, false, false, false, false, false, false, false] _ _
                refine wpAnyH_take (i := 9) (v := ?_) rfl (by kernel_rfl) (by kernel_rfl) (by kernel_rfl) (fun _ _ _ h => h) (Or.inl ⟨by rfl, ?hy⟩) hS ?_
                case hy => intro w' hSw; go_simp; try with_reducible rfl
                simp only [List.getElem_toArray, List.getElem_cons_succ, List.getElem_cons_zero, Act.put, List.setIfInBounds_toArray, List.set_cons_zero, List.set_cons_succ]
                change wpAnyH _ _ _ _ _ 10 #[true, true, true, true, true, true, true, true, true, true, false, false, false, false, false, false, false, false, false, false] _ _
                refine wpAnyH_take (i := 10) (v := ?_) rfl (by kernel_rfl) (by kernel_rfl) (by kernel_rfl) (fun _ _ _ h => h) (Or.inl ⟨by rfl, ?hy⟩) hS ?_
                case hy => intro w' hSw; have hc := (cells_at ((hSw.2 lb HLBW.out HNE.out.2).trans HLC.out) 0).trans (show _ = some (Value.slice la m lcap) from rfl); go_simp; try with_reducible rfl
                simp only [List.getElem_toArray, List.getElem_cons_succ, List.getElem_cons_zero, Act.put, List.setIfInBounds_toArray, List.set_cons_zero, List.set_cons_succ]
                change wpAnyH _ _ _ _ _ 9 #[true, true, true, true, true, true, true, true, true, true, true, false, false, false, false, false, false, false, false, false] _ _
                refine wpAnyH_take (i := 11) (v := ?_) rfl (by kernel_rfl) (by kernel_rfl) (by kernel_rfl) (fun _ _ _ h => h) (Or.inl ⟨by rfl, ?hy⟩) hS ?_
                case hy => intro w' hSw; go_simp; try with_reducible rfl
                simp only [List.getElem_toArray, List.getElem_cons_succ, List.getElem_cons_zero, Act.put, List.setIfInBounds_toArray, List.set_cons_zero, List.set_cons_succ]
                change wpAnyH _ _ _ _ _ 8 #[true, true, true, true, true, true, true, true, true, true, true, true, false, false, false, false, false, false, false, false] _ _
                refine wpAnyH_take (i := 12) (v := ?_) rfl (by kernel_rfl) (by kernel_rfl) (by kernel_rfl) (fun _ _ _ h => h) (Or.inl ⟨by rfl, ?hy⟩) hS ?_
                case hy => intro w' hSw; go_simp; try with_reducible rfl
                simp only [List.getElem_toArray, List.getElem_cons_succ, List.getElem_cons_zero, Act.put, List.setIfInBounds_toArray, List.set_cons_zero, List.set_cons_succ]
                change wpAnyH _ _ _ _ _ 7 #[true, true, true, true, true, true, true, true, true, true, true, true, true, false, false, false, false, false, false, false] _ _
                refine wpAnyH_take (i := 13) (v := ?_) rfl (by kernel_rfl) (by kernel_rfl) (by kernel_rfl) (fun _ _ _ h => h) (Or.inl ⟨by rfl, ?hy⟩) hS ?_
                case hy => intro w' hSw; go_simp; try with_reducible rfl
                simp only [List.getElem_toArray, List.getElem_cons_succ, List.getElem_cons_zero, Act.put, List.setIfInBounds_toArray, List.set_cons_zero, List.set_cons_succ]
                change wpAnyH _ _ _ _ _ 6 #[true, true, true, true, true, true, true, true, true, true, true, true, true, true, false, false, false, false, false, false] _ _
                refine wpAnyH_take (i := 14) (v := ?_) rfl (by kernel_rfl) (by kernel_rfl) (by kernel_rfl) (fun _ _ _ h => h) (Or.inl ⟨by rfl, ?hy⟩) hS ?_
                case hy => intro w' hSw; go_simp; try with_reducible rfl
                simp only [List.getElem_toArray, List.getElem_cons_succ, List.getElem_cons_zero, Act.put, List.setIfInBounds_toArray, List.set_cons_zero, List.set_cons_succ]
                change wpAnyH _ _ _ _ _ 5 #[true, true, true, true, true, true, true, true, true, true, true, true, true, true, true, false, false, false, false, false] _ _
                refine wpAnyH_take (i := 15) rfl (by kernel_rfl) (by kernel_rfl) (by kernel_rfl) (fun _ _ _ h => h) (Or.inr ⟨by rfl, rfl⟩) hS ?_
                simp only [List.getElem_toArray, List.getElem_cons_succ, List.getElem_cons_zero, Act.put, List.setIfInBounds_toArray, List.set_cons_zero, List.set_cons_succ]
                change wpAnyH _ _ _ _ _ 4 #[true, true, true, true, true, true, true, true, true, true, true, true, true, true, true, true, false, false, false, false] _ _
                refine wpAnyH_take (i := 16) rfl (by kernel_rfl) (by kernel_rfl) (by kernel_rfl) (fun _ _ _ h => h) (Or.inr ⟨by rfl, rfl⟩) hS ?_
                simp only [List.getElem_toArray, List.getElem_cons_succ, List.getElem_cons_zero, Act.put, List.setIfInBounds_toArray, List.set_cons_zero, List.set_cons_succ]
                change wpAnyH _ _ _ _ _ 3 #[true, true, true, true, true, true, true, true, true, true, true, true, true, true, true, true, true, false, false, false] _ _
                refine wpAnyH_take (i := 17) (v := ?_) rfl (by kernel_rfl) (by kernel_rfl) (by kernel_rfl) (fun _ _ _ h => h) (Or.inl ⟨by rfl, ?hy⟩) hS ?_
                case hy => intro w' hSw; go_simp; try with_reducible rfl
                simp only [List.getElem_toArray, List.getElem_cons_succ, List.getElem_cons_zero, Act.put, List.setIfInBounds_toArray, List.set_cons_zero, List.set_cons_succ]
                change wpAnyH _ _ _ _ _ 2 #[true, true, true, true, true, true, true, true, true, true, true, true, true, true, true, true, true, true, false, false] _ _
                refine wpAnyH_ready (rs := [18]) (by kernel_rfl) (by simp) ?_
                refine AllReadyH.cons rfl (fun K hK => ?_) AllReadyH.nil
                rw [if_pos (by rfl)]
                refine wp_store_row 44 (.tmp 2) (.tmp 35) rfl r (actA a (.slice va a.b.length vc)) rfl rfl 44 _ HRD.out (by rw [act44]; rfl) (by rfl) (actA_one _ _ _ _) ?_
                refine hK.out _ _ (save_row hS _) (fun hSz => ?_)
                clear hK K
                simp only [List.getElem_toArray, List.getElem_cons_succ, List.getElem_cons_zero, Act.put, List.setIfInBounds_toArray, List.set_cons_zero, List.set_cons_succ]
                change wpAnyH _ _ _ _ _ 1 #[true, true, true, true, true, true, true, true, true, true, true, true, true, true, true, true, true, true, true, false] _ _
                refine wpAnyH_take (i := 19) (v := ?_) rfl (by kernel_rfl) (by kernel_rfl) (by kernel_rfl) (fun _ _ _ h => h) (Or.inl ⟨by rfl, ?hy⟩) hSz ?_
                case hy => intro w' hSw; go_simp; try with_reducible rfl
                simp only [List.getElem_toArray, List.getElem_cons_succ, List.getElem_cons_zero, Act.put, List.setIfInBounds_toArray, List.set_cons_zero, List.set_cons_succ]
                change wpAnyH _ _ _ _ _ 0 #[true, true, true, true, true, true, true, true, true, true, true, true, true, true, true, true, true, true, true, true] _ _
                refine wpAnyH_done (by kernel_rfl) ?_ _
                go_wp2_with fail
                refine bodyPost_ret (results_row_tmp rfl _ _ r 44 (actA a (.slice va a.b.length vc)) (0, 0) _ rfl (setRow_heap _ _ _ _ _ _ HRD.out) Tryd.underlying44 rfl (by rw [act44]; rfl)) rfl ?_
                refine ⟨hbel.out.trans (hSz.1.mono (Nat.le_of_lt HLB.out)), a, va, vc, ?_, ?_⟩
                · rw [HAN.out, HGE.out, end_of, if_neg (fun h => by cases h.2.1)]; rfl
                · intro a' ha'
                  rw [HAN.out, HGE.out, end_of, if_neg (fun h => by cases h.2.1)] at ha'; cases ha'
      · have dx : decide (nm = x) = false := by simpa using hx
        have bx : (nm != x) = true := by rw [eq_sV, dx]; rfl
        have HNE : Hid (∀ j, j < k + 1 → nameK j ≠ x) := fun j hj => by
          rcases Nat.lt_or_eq_of_le (Nat.le_of_lt_succ hj) with h | h
          · exact hne.out j h
          · subst h; rw [← HF.out.2]; exact hx
        clear hx hne
        go_wp2_with fail
        refine (HNK.out w1).mono ?_
        rintro e w2 ⟨rfl, rfl⟩
        go_wp2
        go_round
        case rel => exact ⟨k + 1, by have := HK.out; omega, by go_num, HNE.out⟩
        case measure => simp [intOf]; have := HK.out; omega
    · have hd : decide ((k : Int) ≤ 19) = false := by simp; omega
      have dl : ¬ (k : Int) ≤ 19 := by omega
      have HKN : Hid (kindN x = none) := kindN_miss (fun j hj => hne.out j (by omega))
      have HAN : Hid (actN (x :: ws) = none) := by show _ = _; rw [actN_cons, HKN.out]; rfl
      clear hne
      go_wp2_with (first
        | (refine wpList_store_row rfl 44 (.tmp 2) (.tmp 53) rfl r (actA zeroAct nilV) rfl rfl 44 _ HR1.out (by rw [act44]; rfl) (by rfl) (actA_one _ _ _ _) ?_)
        | fail)
      refine bodyPost_ret (results_row_tmp rfl _ _ r 44 (actA zeroAct nilV) (0, 0) _ rfl (setRow_heap _ _ _ _ _ _ HR1.out) Tryd.underlying44 rfl (by rw [act44]; rfl)) rfl ?_
      exact ⟨below_setRow HBE1.out (Nat.le_of_lt HLB.out) _, zeroAct, none, 0, by rw [HAN.out]; rfl, fun a' ha => by rw [HAN.out] at ha; cases ha⟩
end Go.Proofs.YteennbdakjjcfaaDoor
