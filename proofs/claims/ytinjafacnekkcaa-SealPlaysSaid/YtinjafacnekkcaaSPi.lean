/- Texts AesK, AesP, AesW, AesR, AesQ, AesX, ArrOpen, Str, Byt, Xor, MixW, AesY, Most, put together by pack.py. -/
import Derived.Test.YtinjafacnekkcaaSPh
import Derived.Deep.AppendLies
import Derived.Test.YtinjafacnekkcaaSPe
import Derived.Test.YtinjafacnekkcaaSPa
import Derived.OpenShut
import Derived.ProofKit
import Derived.Laws.BytesString
import Derived.Laws.IdiomStrings
import Derived.Lib.BufferRead
import Derived.Maps.AppendAt
import Derived.Test.YtinjafacnekkcaaSPc
import Derived.Test.YtinjafacnekkcaaSPf
import Derived.Deep.CutRange
import Derived.Deep.MidRow
set_option linter.unusedVariables false
set_option linter.unusedSimpArgs false
namespace Go.Proofs.Ytinjafacnekkcaa
open Go Go.RowKit GfM
def keyOf (a b : List Nat) (long : Bool) : List Nat := if long then a ++ b else a
end Go.Proofs.Ytinjafacnekkcaa
namespace Go.Proofs.Ytinjafacnekkcaa
open Go Go.RowKit GfM
theorem ext16 {l m : List Nat} (hl : l.length = 16) (hm : m.length = 16) (h : ∀ j, j < 16 → l.getD j 0 = m.getD j 0) : l = m := by
  apply List.ext_getElem (by rw [hl, hm])
  intro j h1 h2
  have := h j (by omega)
  simpa [List.getD_eq_getElem?_getD, h1, h2] using this
theorem get_map16 (g : Nat → Nat) (j : Nat) (hj : j < 16) : ((List.range 16).map g).getD j 0 = g j := by simp [hj]
end Go.Proofs.Ytinjafacnekkcaa
namespace Go.Proofs.Ytinjafacnekkcaa
open Go Go.RowKit GfM
/-- the words' bytes of a key -/
def wordsK (key : List Nat) : List Nat := sched (key.length / 4) key (3 * (key.length / 4) + 28)
def roundsK (key : List Nat) : Nat := key.length / 4 + 6
theorem wordsK_len (key : List Nat) (h : key.length = 16 ∨ key.length = 32) : (wordsK key).length = 16 * roundsK key + 16 := by
  unfold wordsK roundsK
  rcases h with h | h <;> rw [h] <;> rw [sched_len _ key (by rw [h])]
theorem new_c (b gk o cap : Nat) (key : List Nat) (hkl : key.length = 16 ∨ key.length = 32) (hkb : ∀ x ∈ key, x < 256) (hcap : key.length ≤ cap) (w : World) (hB : IsBox w b) (hg : gk < w.heap.size)
    (hk : ∀ j, j < key.length → w.cell? ⟨gk, o + j, none⟩ = some (.int .u8 ((key.getD j 0 : Nat) : Int))) :
    Calls Try.prog 10 #[.pointer (some ⟨b, 0, none⟩), .slice (some ⟨gk, o, none⟩) key.length cap] w fun e w' =>
      ∃ c g n cp, e = .returned (.tuple #[.pointer (some ⟨c, 0, none⟩), .int .i64 0]) ∧ Cip w' c b g n cp (roundsK key) (wordsK key) ∧ w.heap.size ≤ c ∧ w.heap.size ≤ g ∧ Below w.heap.size w w' := by
  rcases hkl with h | h
  · have hw : wordsK key = sched 4 key 40 := by unfold wordsK; rw [h]
    have hr : roundsK key = 10 := by unfold roundsK; rw [h]
    rw [hw, hr, h]
    rw [h] at hcap hk
    exact (new4_c b gk o cap key h hkb hcap w hB hg hk).mono fun e w' ⟨c, g, cp, h1, h2, h3⟩ => ⟨c, g, _, cp, h1, h2, h3⟩
  · have hw : wordsK key = sched 8 key 52 := by unfold wordsK; rw [h]
    have hr : roundsK key = 14 := by unfold roundsK; rw [h]
    rw [hw, hr, h]
    rw [h] at hcap hk
    exact (new8_c b gk o cap key h hkb hcap w hB hg hk).mono fun e w' ⟨c, g, cp, h1, h2, h3⟩ => ⟨c, g, _, cp, h1, h2, h3⟩
/-- encrypted by a key -/
def encK (key l : List Nat) : List Nat := encL (wordsK key) (roundsK key) l
theorem enc_c {c b g n cap : Nat} {key l : List Nat} (hkl : key.length = 16 ∨ key.length = 32) (hl : By l) (w : World) (hC : Cip w c b g n cap (roundsK key) (wordsK key)) :
    Calls Try.prog 59 #[.pointer (some ⟨c, 0, none⟩), .agg (bA l)] w fun e w' => e = .returned (.agg (bA (encK key l))) ∧ Below w.heap.size w w' :=
  encrypt_c c b g n cap _ _ l hl (by unfold roundsK; omega) (by rw [wordsK_len key hkl]; exact Nat.le_refl _) (by unfold roundsK; omega) w hC
end Go.Proofs.Ytinjafacnekkcaa
namespace Go.Proofs.Ytinjafacnekkcaa
open Go Go.RowKit GfM
end Go.Proofs.Ytinjafacnekkcaa
namespace Go.Proofs.Ytinjafacnekkcaa
open Go Go.RowKit GfM
theorem encK_by {key l : List Nat} (hkl : key.length = 16 ∨ key.length = 32) (hl : By l) (hW : ∀ x ∈ wordsK key, x < 256) : By (encK key l) := by
  have h16 := wordsK_len key hkl
  unfold encK encL
  exact key_by _ _ _ (stp_shift.okay _ (stp_sub.okay _ (encS_by _ l hl hW _ (by omega)))) hW (by omega)
end Go.Proofs.Ytinjafacnekkcaa
namespace Go.Proofs.Ytinjafacnekkcaa
open Go Go.RowKit GfM
theorem own_keep {W W' : World} {base : Nat} {e : TypeId} {sz : Nat} {v : Value} {n : Nat} {xs : List Value} (h : W.ownsRow base e sz v n xs) (hb : ∀ k, base ≤ k → k < W.heap.size → W'.heap[k]? = W.heap[k]?) : W'.ownsRow base e sz v n xs := by
  refine ⟨h.1, ?_⟩
  rcases h.2 with h | ⟨g, cap, cur, e1, e2, e3, e4⟩
  · exact .inl h
  · exact .inr ⟨g, cap, cur, e1, e2, (hb g e2 (lt_of_block e3)).trans e3, e4⟩
end Go.Proofs.Ytinjafacnekkcaa
namespace Go.Proofs.Ytinjafacnekkcaa
open Go Go.RowKit Go.ChangeShapes Go.WideShapes
/-- a slice of ints, as it comes in: zs: all that its capacity holds -/
def IsRow (k : IntKind) (w : World) (a : Option Addr) (len cap : Nat) (zs : List Int) : Prop :=
  (a = none ∧ len = 0 ∧ cap = 0 ∧ zs = []) ∨
  ∃ p : Addr, a = some p ∧ len ≤ cap ∧ cap ≤ maxLen ∧ zs.length = cap ∧ (∀ i, i < zs.length → w.cell? (p.add i) = some (.int k (zs.getD i 0))) ∧ (∀ n ∈ zs, (Lit.int k n).wf = true)
/-- bytes that come in -/
def RowIn (w : World) (v : Value) (l : List Nat) : Prop :=
  (∀ x ∈ l, x < 256) ∧ ((v = .slice none 0 0 ∧ l = []) ∨
  ∃ g o cap sp, v = .slice (some ⟨g, o, sp⟩) l.length cap ∧ l.length ≤ cap ∧ cap ≤ maxLen ∧ (0 < l.length → sp = none ∧ g < w.heap.size) ∧ ∀ j, j < l.length → w.cell? ⟨g, o + j, none⟩ = some (.int .u8 ((l.getD j 0 : Nat) : Int)))
theorem rowIn {w : World} {a : Option Addr} {len cap : Nat} {zs : List Int} (h : IsRow .u8 w a len cap zs) : ∃ l, l.length = len ∧ RowIn w (.slice a len cap) l := by
  rcases h with ⟨rfl, rfl, rfl, _⟩ | ⟨⟨g, o, sp⟩, rfl, hl, hm, hz, hc, hw⟩
  · exact ⟨[], rfl, by simp, .inl ⟨rfl, rfl⟩⟩
  · have hlen : ((zs.take len).map Int.toNat).length = len := by simp; omega
    have hwf : ∀ i, i < zs.length → 0 ≤ zs.getD i 0 ∧ zs.getD i 0 < 256 := fun i hi => by
      have := hw _ (List.getElem_mem (l := zs) (h := hi))
      rw [List.getD_eq_getElem?_getD, List.getElem?_eq_getElem hi]
      simp [Lit.wf, IntKind.min, IntKind.max, IntKind.signed, IntKind.bits] at this
      simp; omega
    have hget : ∀ j, j < len → ((((zs.take len).map Int.toNat).getD j 0 : Nat) : Int) = zs.getD j 0 := fun j hj => by
      have h1 := hwf j (by omega)
      rw [List.getD_eq_getElem?_getD, List.getElem?_map, List.getElem?_take_of_lt hj, List.getElem?_eq_getElem (by omega)]
      rw [List.getD_eq_getElem?_getD, List.getElem?_eq_getElem (by omega)] at h1
      rw [List.getD_eq_getElem?_getD, List.getElem?_eq_getElem (by omega)]
      simp at h1 ⊢
      omega
    have hcell : ∀ j, j < len → w.cell? ⟨g, o + j, none⟩ = some (.int .u8 (zs.getD j 0)) := fun j hj => by
      have := hc j (by omega)
      by_cases h0 : j = 0
      · subst h0
        simp only [Addr.add, if_true] at this
        have hs : sp = none := by
          unfold World.cell? at this
          split at this
          · cases sp with
            | none => rfl
            | some x => simp at this
          · cases this
        subst hs
        exact this
      · simp only [Addr.add, if_neg h0] at this
        exact this
    refine ⟨(zs.take len).map Int.toNat, hlen, fun x hx => ?_, .inr ⟨g, o, cap, sp, by rw [hlen], by rw [hlen]; exact hl, hm, fun h0 => ?_, fun j hj => ?_⟩⟩
    · simp only [List.mem_map] at hx
      obtain ⟨y, hy, rfl⟩ := hx
      have := hw y (List.mem_of_mem_take hy)
      simp [Lit.wf, IntKind.min, IntKind.max, IntKind.signed, IntKind.bits] at this
      omega
    · rw [hlen] at h0
      have h1 := hc 0 (by omega)
      simp only [Addr.add, if_true] at h1
      unfold World.cell? at h1
      split at h1
      · rename_i hh
        refine ⟨?_, lt_of_block hh⟩
        cases sp with
        | none => rfl
        | some x => simp at h1
      · cases h1
    · rw [hlen] at hj
      rw [hget j hj]
      exact hcell j hj
theorem open_bytes_array {H : Type} {enc : TypeId × Value → H} {P : Program} {W W' : World} {base b0 : Nat} {spare : Nat → Bool} {held : Bool} {r : Reach} {t e : TypeId} {n : Nat} {v : Value} {d : DataW H} {ps : List MemPlace}
    (ht : P.underlying t = some (.array n e)) (he : P.underlying e = some (.int .u8)) (hce : P.cellsOf e = 1) (hct : P.cellsOf t = n) (hval : Value.okWide P W' r b0 t v) (hd : DataW.Trod enc P W base spare held t v d ps) :
    ∃ l : List Nat, v = .agg (bA l) ∧ l.length = n ∧ ∀ x ∈ l, x < 256 := by
  have hv : ∃ cs, v = .agg cs := by
    simp only [Value.okWide, ht] at hval
    obtain ⟨cs, h, _⟩ := hval
    exact ⟨cs, h⟩
  obtain ⟨cs, rfl⟩ := hv
  obtain ⟨fuel, hf⟩ := hd
  simp only [Value.cells] at hf
  obtain ⟨xs, m, _, _, hl, hxl, hel⟩ := DataW.trod_array ht hf
  rw [hct] at hl
  have hs : cs.size = n := by simpa using hl
  have key : ∀ i, i < n → ∃ z : Nat, z < 256 ∧ cs[i]? = some (.int .u8 (z : Int)) := by
    intro i hi
    have h1 := hel i hi
    rw [hce, Nat.mul_one, List.getElem?_eq_getElem (by omega)] at h1
    obtain ⟨z, h2, _, hw⟩ := DataW.trod_int he h1
    rw [List.take_one] at h2
    have h3 : cs[i]? = some (.int .u8 z) := by simpa using h2
    have hb : 0 ≤ z ∧ z < 256 := by
      simp [Lit.wf, IntKind.min, IntKind.max, IntKind.signed, IntKind.bits] at hw
      omega
    exact ⟨z.toNat, by omega, by rw [h3, Int.toNat_of_nonneg hb.1]⟩
  have hex : ∃ f : Nat → Nat, ∀ i, i < n → f i < 256 ∧ cs[i]? = some (.int .u8 ((f i : Nat) : Int)) := by
    refine ⟨fun i => if h : i < n then (key i h).choose else 0, fun i hi => ?_⟩
    simp only [hi, dif_pos]
    exact (key i hi).choose_spec
  obtain ⟨f, hf2⟩ := hex
  refine ⟨(List.range n).map f, ?_, by simp, fun x hx => ?_⟩
  · congr 1
    apply Array.ext_getElem?
    intro i
    by_cases hi : i < n
    · rw [(hf2 i hi).2, bA_get _ _ (by simpa using hi)]
      simp [hi]
    · rw [Array.getElem?_eq_none (by omega), Array.getElem?_eq_none (by rw [bA_size]; simpa using hi)]
  · simp at hx
    obtain ⟨i, hi, rfl⟩ := hx
    exact (hf2 i hi).1
end Go.Proofs.Ytinjafacnekkcaa
namespace Go.Proofs.Ytinjafacnekkcaa
open Go Go.RowKit GfM
theorem ctrB_by (e b l : Nat) : By (ctrB e b l) := by
  have h : ∀ x ∈ ctrB e b l, x < 256 := by
    intro x hx
    simp only [ctrB, highB, List.mem_append, List.mem_map, List.mem_cons, List.not_mem_nil, or_false] at hx
    rcases hx with ⟨_, _, rfl⟩ | ⟨_, _, rfl⟩ | ⟨_, _, rfl⟩ | rfl | rfl <;> first | exact upB_lt _ _ | omega
  refine ⟨ctrB_len e b l, fun j hj => ?_⟩
  rw [List.getD_eq_getElem?_getD, List.getElem?_eq_getElem (by rw [ctrB_len]; exact hj)]
  exact h _ (List.getElem_mem _)
/-- the stream's first k blocks -/
def strB (key : List Nat) (e b : Nat) : Nat → List Nat
  | 0 => []
  | k + 1 => strB key e b k ++ encK key (ctrB e b k)
theorem encK_len (key l : List Nat) : (encK key l).length = 16 := by simp [encK, encL, keyL]
theorem strB_len (key : List Nat) (e b : Nat) : ∀ k, (strB key e b k).length = 16 * k
  | 0 => rfl
  | k + 1 => by rw [strB, List.length_append, strB_len key e b k, encK_len]; omega
theorem strB_get (key : List Nat) (e b : Nat) : ∀ k j, j < 16 * k → (strB key e b k).getD j 0 = (encK key (ctrB e b (j / 16))).getD (j % 16) 0
  | 0, j, h => by omega
  | k + 1, j, h => by
    have hl := strB_len key e b k
    rw [strB, List.getD_eq_getElem?_getD]
    by_cases hj : j < 16 * k
    · rw [List.getElem?_append_left (by omega), ← List.getD_eq_getElem?_getD]
      exact strB_get key e b k j hj
    · rw [List.getElem?_append_right (by omega), hl, ← List.getD_eq_getElem?_getD, show j / 16 = k by omega, show j % 16 = j - 16 * k by omega]
set_option maxRecDepth 100000 in
set_option maxHeartbeats 4000000 in
theorem stream_c {c bx g n0 cp : Nat} {key : List Nat} (hkl : key.length = 16 ∨ key.length = 32) (e b n : Nat) (he : e < 18446744073709551616) (hb : b < 4294967296) (h1 : 1 ≤ n) (hn : n ≤ 65536) (w : World) (hC : Cip w c bx g n0 cp (roundsK key) (wordsK key)) :
    Calls Try.prog 49 #[.pointer (some ⟨c, 0, none⟩), .int .u64 (e : Int), .int .u32 (b : Int), .int .i64 (n : Int)] w fun r w' =>
      ∃ q, r = .returned (.slice (some ⟨q, 0, none⟩) n n) ∧ w.heap.size ≤ q ∧ q < w'.heap.size ∧ (∀ j, j < n → w'.cell? ⟨q, j, none⟩ = some (.int .u8 (((encK key (ctrB e b (j / 16))).getD (j % 16) 0 : Nat) : Int))) ∧ Below w.heap.size w w' := by
  obtain ⟨i0, hi, hz0, hz1, hz2⟩ := info_parts u8info
  have HC := Lib.hid hC
  have HK := Lib.hid hkl
  have hBB := fun (l : Nat) (hl : l < 65536) (w : World) => counter_c e b l he hb hl w
  have HBB := Lib.hid hBB
  clear hC hkl he hb hBB
  have d1 : decide ((n : Int) < 1) = false := by simp; omega
  have d2 : decide ((n : Int) > 65536) = false := by simp; omega
  go_enter Try.func49, Try.ntmps49
  go_wp2
  go_loopw [10, 11] (fun vs vi wr => ∃ k : Nat, 16 * k < n + 16 ∧ vi = .int .i64 (k : Int) ∧ Hid (wr.ownsRow w.heap.size 5 1 vs (16 * k) (bA (strB key e b k)).toList) ∧ Hid (Below w.heap.size w wr)) (fun _ vi _ => n + 16 - 16 * (intOf vi).toNat)
  case atStart => exact ⟨0, by omega, rfl, ⟨rfl, .inl ⟨rfl, rfl⟩⟩, Below.refl _ _⟩
  case round =>
    obtain ⟨k, hk, rfl, hown, hbel⟩ := hrel
    have hlen : ∀ w' : World, True := fun _ => trivial
    clear hlen
    have hv : ∃ s cap, u10 = .slice s (16 * k) cap ∧ (k = 0 ∨ 16 * k ≤ cap) := by
      rcases hown.out.2 with ⟨rfl, h⟩ | ⟨g', cap', cur, h, e2, e3, e4, e5, e6, e7⟩
      · exact ⟨none, 0, by rw [h], .inl (by omega)⟩
      · exact ⟨_, cap', h, .inr e4⟩
    obtain ⟨sa, capo, rfl, hcap⟩ := hv
    obtain ⟨m, hm⟩ : ∃ m, m = 16 * k := ⟨_, rfl⟩
    have HM := Lib.hid hm
    rw [← hm] at hown hcap ⊢
    clear hm
    by_cases hlt : m < n
    · have hd : decide ((m : Int) < (n : Int)) = true := by simp; omega
      have hk16 : k < 65536 := by have := HM.out; omega
      have hw16 : IntKind.u16.wrap (k : Int) = (k : Int) := by rw [IntKind.wrap_u16]; omega
      have HHK := Lib.hid hk16
      clear hk16
      go_wp2_with fail
      refine (HBB.out k HHK.out wr).mono ?_
      rintro r w1 ⟨rfl, hb1⟩
      have HB1 : Hid (Below w.heap.size w w1) := hbel.out.trans (hb1.mono hbel.out.size)
      have HOW1 : Hid (w1.ownsRow w.heap.size 5 1 (.slice sa m capo) m (bA (strB key e b k)).toList) := own_keep hown.out (fun q hq hq2 => hb1.block q hq2)
      clear hb1
      go_wp2_with fail
      refine (enc_c HK.out (ctrB_by e b k) w1 (HC.out.up HB1.out (Nat.le_refl _))).mono ?_
      rintro r w2 ⟨rfl, hb2⟩
      have HB2 : Hid (Below w.heap.size w w2) := HB1.out.trans (hb2.mono HB1.out.size)
      have HOW2 : Hid (w2.ownsRow w.heap.size 5 1 (.slice sa m capo) m (bA (strB key e b k)).toList) := own_keep HOW1.out (fun q hq hq2 => hb2.block q hq2)
      have HEL := Lib.hid (encK_len key (ctrB e b k))
      obtain ⟨X, hX⟩ : ∃ X, X = encK key (ctrB e b k) := ⟨_, rfl⟩
      have HX := Lib.hid hX
      rw [← hX] at HEL ⊢
      clear hb2 hX HOW1 HB1
      go_wp2_with (first
        | (refine wpList_store_row rfl 22 (.tmp 12) (.tmp 33) rfl w2.heap.size _ rfl rfl 22 _ (heap_new' _ _) (by rw [zero16', bA_size, HEL.out]) (by rw [bA_size, HEL.out]; rfl) (bA_one _) ?_; generalize hW5 : World.setRow _ _ _ = W5; have HH5 : Hid (W5.heap[w2.heap.size]? = some (.cells (bA X) 22 (0, 0))) := (by rw [← hW5]; exact setRow_heap _ _ _ _ _ _ (heap_new' w2 _)); have HB5 : Hid (Below w2.heap.size w2 W5) := (by rw [← hW5]; exact below_setRow ((Below.refl _ _).alloc (Nat.le_refl _) _) (Nat.le_refl _) _); clear hW5; have HS5 : Hid (w2.heap.size < W5.heap.size) := lt_of_block HH5.out; have HOW5 : Hid (W5.ownsRow w.heap.size 5 1 (.slice sa m capo) m (bA (strB key e b k)).toList) := own_keep HOW2.out (fun q hq hq2 => HB5.out.block q hq2))
        | (refine wpList_append_lies _ rfl (.tmp 34) (.tmp 35) 29 rfl w.heap.size 5 i0 _ 1 1 Try.underlying29 hi hz0 hz1 hz2 rfl (by omega) (.slice sa m capo) m _ rfl HOW5.out ⟨w2.heap.size, 0, none⟩ 16 16 (bA X).toList rfl (by simp [bA_size, HEL.out]) (World.news_of_block HH5.out) (by simp [bA, Value.oneCell']) (by omega) (by unfold maxLen; omega) (by omega) (by have := HB5.out.size; have := HB2.out.size; omega) _ rfl ?_; intro g5 cap5 w6 hown6 hgrow hat hlt6)
        | fail)
      go_roundw
      case rel =>
        refine ⟨k + 1, by have := HM.out; omega, by go_num, ?_, ?_⟩
        · have e : (bA (strB key e b (k + 1))).toList = (bA (strB key e b k)).toList ++ (bA X).toList := by rw [strB, HX.out]; simp [bA]
          rw [e, show 16 * (k + 1) = m + 16 by have := HM.out; omega]; exact hown6
        · exact (HB2.out.trans (HB5.out.mono HB2.out.size)).grown hgrow (by have := HB2.out.size; have := HB5.out.size; omega) (fun q e => by have := own_ge HOW5.out q e; omega)
      case measure => simp [intOf]; have := HM.out; omega
    · have hd : decide ((m : Int) < (n : Int)) = false := by simp; omega
      rcases hown.out.2 with ⟨h, h'⟩ | ⟨g', cap', cur, h, e2, e3, e4, e5, e6, e7⟩
      · omega
      · cases h
        have hs1 : (n : Int) ≤ (capo : Int) := by omega
        have HE3 := Lib.hid e3
        have HE7 := Lib.hid e7
        have HE2 := Lib.hid e2
        clear e2 e3 e5 e6 e7 hi hz0 hz1 hz2
        go_wp2
        go_ret
        refine ⟨g', rfl, HE2.out, lt_of_block HE3.out, fun j hj => ?_, hbel.out⟩
        rw [cells_at HE3.out j]
        have := congrArg (fun l => l[j]?) HE7.out
        simp only [Nat.mul_one] at this
        rw [List.getElem?_take_of_lt (by omega), Array.getElem?_toList, Array.getElem?_toList, bA_get _ j (by rw [strB_len]; have := HM.out; omega), strB_get _ _ _ _ _ (by have := HM.out; omega)] at this
        exact this
end Go.Proofs.Ytinjafacnekkcaa
namespace Go.Proofs.Ytinjafacnekkcaa
open Go Go.RowKit
/-- n bytes behind an address, if there are any -/
def BytesAt (w : World) (a : Option Addr) (cap : Nat) (l : List Nat) : Prop :=
  (∀ x ∈ l, x < 256) ∧ (0 < l.length → ∃ g o, a = some ⟨g, o, none⟩ ∧ l.length ≤ cap ∧ g < w.heap.size ∧ ∀ j, j < l.length → w.cell? ⟨g, o + j, none⟩ = some (.int .u8 ((l.getD j 0 : Nat) : Int)))
theorem BytesAt.up {w w' : World} {a : Option Addr} {cap : Nat} {l : List Nat} (h : BytesAt w a cap l) {B : Nat} (hb : Below B w w') (hB : w.heap.size ≤ B) : BytesAt w' a cap l := by
  refine ⟨h.1, fun h0 => ?_⟩
  obtain ⟨g, o, h1, h2, h3, h4⟩ := h.2 h0
  exact ⟨g, o, h1, h2, Nat.lt_of_lt_of_le h3 hb.size, fun j hj => (hb.cell (p := ⟨g, o + j, none⟩) (Nat.lt_of_lt_of_le h3 hB)).trans (h4 j hj)⟩
theorem getD_lt {l : List Nat} (h : ∀ x ∈ l, x < 256) (j : Nat) : l.getD j 0 < 256 := by
  rw [List.getD_eq_getElem?_getD]
  rcases Nat.lt_or_ge j l.length with hj | hj
  · rw [List.getElem?_eq_getElem hj]; exact h _ (List.getElem_mem _)
  · rw [List.getElem?_eq_none hj]; decide
theorem bytesAt_block {w : World} {q : Nat} {l : List Nat} {z : Nat × Nat} (hb : ∀ x ∈ l, x < 256) (h : w.heap[q]? = some (.cells (bA l) 5 z)) : BytesAt w (some ⟨q, 0, none⟩) l.length l :=
  ⟨hb, fun _ => ⟨q, 0, rfl, Nat.le_refl _, lt_of_block h, fun j hj => by rw [Nat.zero_add, cells_at h j, bA_get l j hj]⟩⟩
/-- bytes as a string's value -/
def strV (l : List Nat) : Value := .string ⟨(l.map UInt8.ofNat).toArray⟩
theorem run_conv {w : World} {a : Option Addr} {cap : Nat} {l : List Nat} (h : BytesAt w a cap l) : (convert 29 9 (.slice a l.length cap)).run Try.prog w = .ok (strV l) w := by
  by_cases h0 : l.length = 0
  · have hl : l = [] := List.length_eq_zero_iff.1 h0
    subst hl
    rw [run_convert_bytes_string w _ _ 5 a _ cap Try.underlying29 Try.underlying5 Try.underlying9]
    cases a with
    | none => simp [Conv.bytesToString, strV]; rfl
    | some p =>
      have := run_bytesToString (P := Try.prog) w p 0 cap [] (by simp [loadCells]; rfl)
      simp only [List.length_nil]
      rw [this]; rfl
  · obtain ⟨g, o, rfl, h2, h3, h4⟩ := h.2 (by omega)
    have := run_convert_bytes_back (P := Try.prog) w 29 9 5 ⟨g, o, none⟩ cap (l.map UInt8.ofNat) Try.underlying29 Try.underlying5 Try.underlying9 (fun j hj => by
      have hj' : j < l.length := by simpa using hj
      have e1 : (⟨g, o, none⟩ : Addr).add j = ⟨g, o + j, none⟩ := by
        unfold Addr.add; split
        · next h => subst h; rfl
        · rfl
      have hlt := h.1 _ (List.getElem_mem (l := l) (h := hj'))
      rw [e1, h4 j hj', List.getD_eq_getElem?_getD, List.getElem?_eq_getElem hj']
      simp [Nat.mod_eq_of_lt hlt])
    rw [List.length_map] at this
    exact this
theorem run_conv_op {w : World} {a : Option Addr} {cap n : Nat} {l : List Nat} (hl : l.length = n) (h : BytesAt w a cap l) (E : Operand → Value) (x : Operand) (o : Oper) (ho : o.op = .convert 29 9 x) (hx : E x = .slice a n cap) :
    (execOp E o).run Try.prog w = .ok (.value (strV l)) w := by
  subst hl
  unfold execOp
  simp only [ho, hx, Sem.run_bind, run_conv h, Result.andThen_ok]
  rfl
theorem wp_conv {o : Oper} {a : Act} {w : World} {K : Act → World → Prop} {Q : Exit → Act → World → Prop} (x : Operand) {s : Option Addr} {cap n : Nat} {l : List Nat} (hl : l.length = n) (h : BytesAt w s cap l) (ho : o.op = .convert 29 9 x)
    (hx : a.eval x = .slice s n cap) (hK : K (a.put o.dst (strV l)) w) : o.wp Try.prog a w K Q := by
  unfold Oper.wp
  rw [run_conv_op hl h a.eval x o ho hx]
  exact hK
theorem strV_inj {l m : List Nat} (hl : ∀ x ∈ l, x < 256) (hm : ∀ x ∈ m, x < 256) (h : l.map UInt8.ofNat = m.map UInt8.ofNat) : l = m := by
  have e : ∀ k : List Nat, (∀ x ∈ k, x < 256) → (k.map UInt8.ofNat).map UInt8.toNat = k := by
    intro k hk
    rw [List.map_map]
    conv => rhs; rw [← List.map_id k]
    apply List.map_congr_left
    intro x hx
    simp [Nat.mod_eq_of_lt (hk x hx)]
  rw [← e l hl, ← e m hm, h]
theorem run_eqs (l m : List Nat) (hl : ∀ x ∈ l, x < 256) (hm : ∀ x ∈ m, x < 256) (E : Operand → Value) (x y : Operand) (t : TypeId) (o : Oper) (ho : o.op = .binOp .eql 9 x y t) (hx : E x = strV l) (hy : E y = strV m) (w : World) :
    (execOp E o).run Try.prog w = .ok (.value (.bool (decide (l = m)))) w := by
  have key : (l.map UInt8.ofNat == m.map UInt8.ofNat) = decide (l = m) := by
    by_cases h : l = m
    · subst h; simp
    · have hne : l.map UInt8.ofNat ≠ m.map UInt8.ofNat := fun h' => h (strV_inj hl hm h')
      simp [h, hne]
  unfold execOp
  simp only [ho, hx, hy]
  unfold strV
  go_simp
theorem run_eqs1 (l : List Nat) (hl : ∀ x ∈ l, x < 256) (E : Operand → Value) (x y : Operand) (t : TypeId) (o : Oper) (ho : o.op = .binOp .eql 9 x y t) (hx : E x = strV l) (hy : E y = strV l) (w : World) :
    (execOp E o).run Try.prog w = .ok (.value (.bool true)) w := by
  rw [run_eqs l l hl hl E x y t o ho hx hy w]; simp
/-- the bytes of a slice that comes in, cut to m -/
theorem bytesAt_in {w : World} {a : Option Addr} {len cap : Nat} {zs : List Int} (h : IsRow .u8 w a len cap zs) (m : Nat) : ∃ l, l.length = min len m ∧ BytesAt w a cap l := by
  obtain ⟨l, hl, hR⟩ := rowIn h
  refine ⟨l.take m, by rw [List.length_take, hl]; omega, fun x hx => hR.1 x (List.mem_of_mem_take hx), fun h0 => ?_⟩
  have h0' : 0 < l.length := by rw [List.length_take] at h0; omega
  rcases hR.2 with ⟨h1, h2⟩ | ⟨g, o, cap', sp, h1, h2, h3, h4, h5⟩
  · rw [h2] at h0'; simp at h0'
  · obtain ⟨rfl, hg⟩ := h4 h0'
    cases h1
    refine ⟨g, o, rfl, by rw [List.length_take]; omega, hg, fun j hj => ?_⟩
    rw [List.length_take] at hj
    rw [h5 j (by omega), List.getD_eq_getElem?_getD, List.getD_eq_getElem?_getD, List.getElem?_take_of_lt (by omega)]
theorem row_cap {w : World} {a : Option Addr} {len cap : Nat} {zs : List Int} {k : IntKind} (hrow : IsRow k w a len cap zs) : len ≤ cap ∧ cap ≤ 9223372036854775807 := by
  rcases hrow with ⟨rfl, rfl, rfl, _⟩ | ⟨_, _, h1, h2, _⟩
  · exact ⟨Nat.le_refl _, Nat.zero_le _⟩
  · exact ⟨h1, h2⟩
theorem add_plain (g o j : Nat) : (⟨g, o, none⟩ : Addr).add j = ⟨g, o + j, none⟩ := by
  unfold Addr.add; split
  · next h => subst h; rfl
  · rfl
/-- append(v, bytes...): the bytes may be none, and nil -/
theorem run_append_bytes {w : World} (ty : TypeId) {base n : Nat} {v : Value} {xs : List Value} (hown : w.ownsRow base 5 1 v n xs) {a : Option Addr} {cap m : Nat} {l : List Nat} (hm : l.length = m) (hB : BytesAt w a cap l) (hnil : a = none → cap = 0) (h63 : n + m ≤ 1000000) (hbase : base ≤ w.heap.size) :
    ∃ v' w', (Builtin.append_ #[29, 29] ty #[v, .slice a m cap]).run Try.prog w = .ok v' w' ∧ w'.ownsRow base 5 1 v' (n + m) (xs ++ (bA l).toList) ∧ w.grownBy w' v.ownBlock := by
  obtain ⟨i0, hi, hz0, hz1, hz2⟩ := info_parts u8info
  cases a with
  | none =>
    have hm0 : m = 0 := by
      rcases Nat.eq_zero_or_pos m with h | h
      · exact h
      · obtain ⟨_, _, h1, _⟩ := hB.2 (by omega); cases h1
    have hc := hnil rfl
    subst hm0; subst hc
    have hl : l = [] := List.length_eq_zero_iff.1 hm
    subst hl
    refine ⟨v, w, run_append_owned_none w base 29 ty 5 i0 1 Try.underlying29 hi v n xs hown, ?_, World.grownBy.refl w _⟩
    simpa [bA] using hown
  | some ad =>
    have hnews : ∀ j u, (bA l).toList[j]? = some u → w.cell? (ad.add j) = some u := by
      intro j u hu
      have hj : j < l.length := by
        have := (List.getElem?_eq_some_iff.1 hu).1; simpa [bA] using this
      obtain ⟨g, o, h1, h2, h3, h4⟩ := hB.2 (by omega)
      cases h1
      rw [add_plain, h4 j hj]
      rw [Array.getElem?_toList, bA_get l j hj] at hu
      exact hu
    obtain ⟨v', w', h1, h2, h3, _⟩ := run_append_own_at (P := Try.prog) w base 29 ty 5 i0 _ 1 1 Try.underlying29 hi hz0 hz1 hz2 rfl (by omega) v n xs hown ad m cap (bA l).toList (by simp [bA, hm]) hnews (by simp [bA, Value.oneCell']) (by unfold maxLen; omega) (by omega) hbase
    exact ⟨v', w', h1, h2, h3⟩
theorem wpList_append_bytes {w : World} {ops : Array Oper} {rest : List Oper} {o : Oper} {A : Act} {Q : Exit → Act → World → Prop} (hgd : o.guard = none) (s x : Operand)
    (ho : o.op = .call { callee := .builtin .append, args := #[s, x], argTypes := #[29, 29] }) {base n : Nat} {v : Value} {xs : List Value} (hs : A.eval s = v) (hown : w.ownsRow base 5 1 v n xs)
    {a : Option Addr} {cap m : Nat} {l : List Nat} (hx : A.eval x = .slice a m cap) (hm : l.length = m) (hB : BytesAt w a cap l) (hnil : a = none → cap = 0) (h63 : n + m ≤ 1000000) (hbase : base ≤ w.heap.size)
    (h : ∀ v' w', w'.ownsRow base 5 1 v' (n + m) (xs ++ (bA l).toList) → w.grownBy w' v.ownBlock → wpList Try.prog ops Q rest (A.put o.dst v') w') : wpList Try.prog ops Q (o :: rest) A w :=
  wpList_plain hgd fun _ hK => by
    obtain ⟨v', w', h1, h2, h3⟩ := run_append_bytes o.type hown hm hB hnil h63 hbase
    unfold Oper.wp execOp
    simp only [ho, resolve, invoke, builtin, Sem.run_bind, Sem.run_pure, Result.andThen_ok, List.map_toArray, List.map_cons, List.map_nil, hs, hx, h1]
    exact hK _ _ (h v' w' h2 h3)
def lenV : Value → Nat
  | .slice _ n _ => n
  | _ => 0
theorem rep_next (l : List Nat) (k c : Nat) : (bA (l ++ List.replicate (k + 1) c)).toList = (bA (l ++ List.replicate k c)).toList ++ [.int .u8 (c : Int)] := by
  rw [List.replicate_succ']; simp [bA]
theorem own_none0 {w : World} {base : Nat} (h : base ≤ w.heap.size) : (w.alloc (Obj.cells #[] 5)).ownsRow base 5 1 (.slice (some ⟨w.heap.size, 0, none⟩) 0 0) 0 [] :=
  ⟨rfl, .inr ⟨_, 0, #[], rfl, h, heap_new' _ _, Nat.le_refl _, Nat.zero_le _, rfl, rfl⟩⟩
theorem wpList_conv {w : World} {ops : Array Oper} {rest : List Oper} {o : Oper} {A : Act} {Q : Exit → Act → World → Prop} (hgd : o.guard = none) (x : Operand) {s : Option Addr} {cap n : Nat} {l : List Nat} (hl : l.length = n) (h : BytesAt w s cap l) (ho : o.op = .convert 29 9 x)
    (hx : A.eval x = .slice s n cap) (hK : wpList Try.prog ops Q rest (A.put o.dst (strV l)) w) : wpList Try.prog ops Q (o :: rest) A w :=
  wpList_plain hgd fun _ hk => wp_conv x hl h ho hx (hk _ _ hK)
theorem wpList_eqs {w : World} {ops : Array Oper} {rest : List Oper} {o : Oper} {A : Act} {Q : Exit → Act → World → Prop} (hgd : o.guard = none) (x y : Operand) (t : TypeId) (l m : List Nat) (hl : ∀ x ∈ l, x < 256) (hm : ∀ x ∈ m, x < 256) (ho : o.op = .binOp .eql 9 x y t)
    (hx : A.eval x = strV l) (hy : A.eval y = strV m) (hK : wpList Try.prog ops Q rest (A.put o.dst (.bool (decide (l = m)))) w) : wpList Try.prog ops Q (o :: rest) A w :=
  wpList_plain hgd fun _ hk => by
    unfold Oper.wp
    rw [run_eqs l m hl hm A.eval x y t o ho hx hy w]
    exact hk _ _ hK
set_option maxRecDepth 100000 in
theorem clone_c (q o cap n : Nat) (l : List Nat) (e1 : l.length = n) (hn : n ≤ 65536) (w : World) (h1 : BytesAt w (some ⟨q, o, none⟩) cap l) (h0 : 0 < n) :
    Calls Try.prog 31 #[.slice (some ⟨q, o, none⟩) n cap] w fun e w' => ∃ g cp, e = .returned (.slice (some ⟨g, 0, none⟩) n cp) ∧ w.heap.size ≤ g ∧ BytesAt w' (some ⟨g, 0, none⟩) cp l ∧ Below w.heap.size w w' := by
  have HE := Lib.hid e1
  have HOWN0 : Hid ((w.alloc (Obj.cells #[] 5)).ownsRow w.heap.size 5 1 (.slice (some ⟨w.heap.size, 0, none⟩) 0 0) 0 []) := own_none0 (Nat.le_refl _)
  have HBE0 : Hid (Below w.heap.size w (w.alloc (Obj.cells #[] 5))) := (Below.refl _ _).alloc (Nat.le_refl _) _
  have HB0 : Hid (BytesAt (w.alloc (Obj.cells #[] 5)) (some ⟨q, o, none⟩) cap l) := h1.up HBE0.out (Nat.le_refl _)
  have hnn : ∀ w : World, (binOp .eql 29 (.slice (some ⟨q, o, none⟩) n cap) (.slice none 0 0)).run Try.prog w = .ok (.bool false) w := fun w => by first | rfl | kernel_rfl | (simp [binOp, Op.equal]; done)
  clear h1 e1
  go_enter Try.func31, Try.ntmps31
  go_wp2_with (first
    | (refine wpList_append_bytes (v := .slice (some ⟨w.heap.size, 0, none⟩) 0 0) (base := w.heap.size) (n := 0) (xs := []) rfl (.tmp 5) (.tmp 6) rfl rfl HOWN0.out rfl HE.out HB0.out (fun h => by cases h) (by omega) (by rw [World.size_alloc]; omega) ?_; intro v1 w1 hown1 hgrow1; have HOWN1 := Lib.hid hown1; have HBEL : Hid (Below w.heap.size w w1) := HBE0.out.grown hgrow1 (by rw [World.size_alloc]; omega) (fun q e => by simp [Value.ownBlock] at e; omega); clear hown1 hgrow1)
    | fail)
  go_ret
  have hown := HOWN1.out
  rw [Nat.zero_add, List.nil_append] at hown
  rcases hown.2 with ⟨_, h⟩ | ⟨g', cap', cur, h, e2, e3, e4, e5, e6, e7⟩
  · omega
  · subst h
    refine ⟨g', cap', rfl, e2, ⟨HB0.out.1, fun _ => ⟨g', 0, rfl, by have := HE.out; omega, lt_of_block e3, fun j hj => ?_⟩⟩, HBEL.out⟩
    rw [Nat.zero_add, cells_at e3 j]
    have := congrArg (fun l => l[j]?) e7
    have := HE.out
    simp only [Nat.mul_one] at *
    rw [List.getElem?_take_of_lt (by omega), Array.getElem?_toList, Array.getElem?_toList, bA_get _ j hj] at *
    assumption
set_option maxRecDepth 100000 in
theorem equal_c (a1 a2 : Option Addr) (c1 c2 n : Nat) (l1 l2 : List Nat) (e1 : l1.length = n) (e2 : l2.length = n) (w : World) (h1 : BytesAt w a1 c1 l1) (h2 : BytesAt w a2 c2 l2) :
    Calls Try.prog 32 #[.slice a1 n c1, .slice a2 n c2] w fun e w' => e = .returned (.bool (decide (l1 = l2))) ∧ w = w' := by
  have H1 := Lib.hid h1
  have H2 := Lib.hid h2
  have HE := Lib.hid e1
  have HE2 := Lib.hid e2
  have hlt1 := h1.1
  have hlt2 := h2.1
  have HLT := Lib.hid (And.intro hlt1 hlt2)
  clear h1 h2 e1 e2 hlt1 hlt2
  go_enter Try.func32, Try.ntmps32
  go_wp2_with (first
    | (refine wpList_conv rfl (.tmp 5) HE.out H1.out rfl rfl ?_)
    | (refine wpList_conv rfl (.tmp 7) HE2.out H2.out rfl rfl ?_)
    | (refine wpList_eqs rfl (.tmp 6) (.tmp 8) 9 l1 l2 HLT.out.1 HLT.out.2 rfl rfl rfl ?_)
    | fail)
  go_ret
  exact ⟨rfl, rfl⟩
end Go.Proofs.Ytinjafacnekkcaa
namespace Go.Proofs.Ytinjafacnekkcaa
open Go Go.RowKit GfM
def xorL (l1 l2 : List Nat) : List Nat := (List.range l1.length).map fun j => l1.getD j 0 ^^^ l2.getD j 0
theorem xorL_len (l1 l2 : List Nat) : (xorL l1 l2).length = l1.length := by simp [xorL]
theorem xorL_get (l1 l2 : List Nat) (j : Nat) (h : j < l1.length) : (xorL l1 l2).getD j 0 = l1.getD j 0 ^^^ l2.getD j 0 := by simp [xorL, h]
set_option maxRecDepth 100000 in
set_option maxHeartbeats 4000000 in
theorem wxor_c (a1 a2 : Option Addr) (c1 c2 : Nat) (l1 l2 : List Nat) (n : Nat) (e1 : l1.length = n) (e2 : l2.length = n) (hn : n ≤ 65536) (w : World) (h1 : BytesAt w a1 c1 l1) (h2 : BytesAt w a2 c2 l2) :
    Calls Try.prog 48 #[.slice a1 n c1, .slice a2 n c2] w fun e w' =>
      ∃ q, e = .returned (.slice (some ⟨q, 0, none⟩) n n) ∧ w.heap.size ≤ q ∧ w'.heap[q]? = some (.cells (bA (xorL l1 l2)) 5 (0, 0)) ∧ Below w.heap.size w w' := by
  have hmk := mk_bytes n (by omega)
  have hl : (xorL l1 l2).length = n := by rw [xorL_len, e1]
  have hs : (w.alloc (.cells (bA (List.replicate n 0)) 5)).heap[w.heap.size]? = some (.cells (bA (partB (xorL l1 l2) 0)) 5 (0, 0)) := by
    rw [partB_zero, hl, heap_new']
  have HS := Lib.hid hs
  have HL := Lib.hid hl
  have HE1 := Lib.hid e1
  have HE2 := Lib.hid e2
  have H1 := Lib.hid h1
  have H2 := Lib.hid h2
  have hmin : min (n : Int) (n : Int) = (n : Int) := by omega
  clear hs hl e1 e2 h1 h2
  go_enter Try.func48, Try.ntmps48
  go_wp2
  go_loopw [15] (fun vi wr => ∃ k : Nat, k ≤ n ∧ vi = .int .i64 k ∧ Hid (wr.heap[w.heap.size]? = some (.cells (bA (partB (xorL l1 l2) k)) 5 (0, 0))) ∧ Hid (Below w.heap.size w wr)) (fun vi _ => n - (intOf vi).toNat)
  case atStart => exact ⟨0, by omega, rfl, HS.out, (Below.refl _ _).alloc (Nat.le_refl _) _⟩
  case round =>
    obtain ⟨k, hk, rfl, hb, hbel⟩ := hrel
    clear HS hmk hmin
    by_cases hlt : k < n
    · obtain ⟨g1, o1, rfl, hc1, hg1, hcell1⟩ := H1.out.2 (by rw [HE1.out]; omega)
      obtain ⟨g2, o2, rfl, hc2, hg2, hcell2⟩ := H2.out.2 (by rw [HE2.out]; omega)
      have HV1 := getD_lt H1.out.1 k
      have HV2 := getD_lt H2.out.1 k
      have cl1 := (hbel.out.cell (p := ⟨g1, o1 + k, none⟩) hg1).trans (hcell1 k (by rw [HE1.out]; exact hlt))
      have cl2 := (hbel.out.cell (p := ⟨g2, o2 + k, none⟩) hg2).trans (hcell2 k (by rw [HE2.out]; exact hlt))
      have hget := xorL_get l1 l2 k (by rw [HE1.out]; exact hlt)
      obtain ⟨x, hx⟩ : ∃ x, x = l1.getD k 0 := ⟨_, rfl⟩
      obtain ⟨y, hy⟩ : ∃ y, y = l2.getD k 0 := ⟨_, rfl⟩
      rw [← hx] at cl1 HV1 hget
      rw [← hy] at cl2 HV2 hget
      have HG := Lib.hid hget
      have f0 := free_at hb.out k
      have c0 := (cells_at hb.out k).trans (bA_get _ k (by rw [partB_len _ _ (by rw [HL.out]; exact hk), HL.out]; exact hlt))
      have hxr : bits BinOp.xor IntKind.u8 (x : Int) (y : Int) = ((x ^^^ y : Nat) : Int) := u8x rfl rfl HV1 HV2
      have hd : decide ((k : Int) < (n : Int)) = true := by simp; omega
      have d6 : (k : Int) < (n : Int) := by omega
      have d7 : ¬ (k : Int) < 0 := by omega
      clear hx hy hget HV1 HV2 hcell1 hcell2
      go_wp2
      refine wp_region_still_tail 12 (by kernel_rfl) (by kernel_rfl) ?_
      simp only [List.take_succ_cons, List.take_zero, List.drop_succ_cons, List.drop_zero]
      change wpStill _ _ wr.drew _ _ _
      repeat still_step
      refine wpStill_nil ?_
      change wpList _ _ _ _ _ wr.drew
      have n0 := block_at hb.out k (.int .u8 ((x ^^^ y : Nat) : Int))
      rw [bA_set, ← HG.out, partB_set _ _ (by rw [HL.out]; exact hlt), HG.out] at n0
      have N0 := Lib.hid n0
      clear n0
      go_wp2
      go_roundw
      case rel => exact ⟨k + 1, by omega, by go_num, N0.out, (hbel.out.setCell (by simp) _).drew⟩
      case measure => simp [intOf]; omega
    · obtain rfl : k = n := by omega
      have h1 := hb.out
      have h2 := partB_full (xorL l1 l2)
      rw [HL.out] at h2
      rw [h2] at h1
      have HH1 := Lib.hid h1
      have hd : decide ((k : Int) < (k : Int)) = false := by simp
      clear h1 h2 hb
      go_wp2
      go_ret
      exact ⟨_, rfl, Nat.le_refl _, HH1.out, hbel.out⟩
end Go.Proofs.Ytinjafacnekkcaa
namespace Go.Proofs.Ytinjafacnekkcaa
open Go Go.RowKit GfM
end Go.Proofs.Ytinjafacnekkcaa
namespace Go.Proofs.Ytinjafacnekkcaa
open Go Go.RowKit GfM
theorem quiet_row {P : Program} {ops : Array Oper} {C : World → Prop} {Q : Act → Prop} {rest : List Oper} {o : Oper} {a : Act} (hgd : Region.wanted o (yielded ops a.tmps) = true) (ty : TypeId) (x : Operand) (ho : o.op = .load ty x)
    (g : Nat) (hx : a.eval x = .pointer (some ⟨g, 0, none⟩)) (t : TypeId) (cs : Array Value) (fr : Nat × Nat) (d : TypeDesc) (hg : ∀ w, C w → w.heap[g]? = some (.cells cs t fr))
    (hu : P.underlying ty = some d) (hd : (match d with | .struct _ | .array _ _ => true | _ => false) = true) (hi : (P.info? ty).map (·.size) = some cs.size)
    (h : wpQuiet P ops C Q rest (a.put o.dst (.agg cs))) : wpQuiet P ops C Q (o :: rest) a :=
  wpQuiet_step fun K hK => by
    rw [if_pos hgd]
    refine ⟨.agg cs, fun w hw => ?_, hK _ h⟩
    unfold Oper.quietAt execOp
    simp only [ho, hx, Instr.loadAt, Instr.sureAddr, Sem.run_bind, Sem.run_pure, Result.andThen_ok, run_loadVar_row w g t ty cs fr d (hg w hw) hu hd hi]
    exact ⟨rfl, rfl⟩
end Go.Proofs.Ytinjafacnekkcaa
namespace Go.Proofs.Ytinjafacnekkcaa
open Go Go.RowKit GfM
theorem stream_bad (v : Value) (e b : Int) (n : Int) (h : n < 1 ∨ n > 65536) (w : World) : Calls Try.prog 49 #[v, .int .u64 e, .int .u32 b, .int .i64 n] w fun r w' => r = .returned (.slice none 0 0) ∧ w = w' := by
  by_cases h1 : n < 1
  · have d1 : decide (n < 1) = true := by simp; omega
    go_enter Try.func49, Try.ntmps49
    go_wp2
    go_ret
    exact ⟨rfl, rfl⟩
  · have d1 : decide (n < 1) = false := by simp; omega
    have d2 : decide (n > 65536) = true := by simp; omega
    go_enter Try.func49, Try.ntmps49
    go_wp2
    go_ret
    exact ⟨rfl, rfl⟩
end Go.Proofs.Ytinjafacnekkcaa
