/- Texts RCj, put together by pack.py. -/
import Derived.Test.YtpbmjfjnmcpieaaGreatCBm
import Derived.Test.YtpbmjfjnmcpieaaGreatCBi
import Derived.Test.YtpbmjfjnmcpieaaGreatCBk
set_option maxRecDepth 100000
set_option maxHeartbeats 16000000
set_option linter.unusedVariables false
set_option linter.unusedSimpArgs false
namespace Go.Proofs.YtpbmjfjnmcpieaaGreat
open Go Go.RowKit
theorem lowL_snoc : ∀ n v, lowL (n + 1) v = lowL n v ++ [upB v n]
 | 0, v => by simp [lowL, upB]
 | n + 1, v => by
  have h := lowL_snoc n (v / 256)
  show v % 256 :: lowL (n + 1) (v / 256) = (v % 256 :: lowL n (v / 256)) ++ [upB v (n + 1)]
  rw [h, List.cons_append]
  congr 2
  unfold upB
  rw [Nat.div_div_eq_div_mul, show 8 * (n + 1) = 8 + 8 * n by omega, Nat.pow_add]
theorem lowL_eq (v : Nat) : ∀ n, lowL n v = lowB n v
 | 0 => rfl
 | n + 1 => by
  rw [lowL_snoc, lowL_eq v n]
  unfold lowB
  rw [List.range_succ, List.map_append]; rfl
/-- the object of a slot -/
def obK (b : List Nat) (c k : Nat) : Ob := ⟨serW (winL b c k), ((winL b c k).drop 8).take (sizeW (winL b c k))⟩
def obsK (b : List Nat) (c : Nat) : Nat -> List Ob
 | 0 => []
 | k + 1 => obsK b c k ++ [obK b c k]
theorem obsK_len (b : List Nat) (c : Nat) : ∀ k, (obsK b c k).length = k
 | 0 => rfl
 | k + 1 => by unfold obsK; rw [List.length_append, obsK_len b c k]; rfl
theorem obsK_get (b : List Nat) (c : Nat) : ∀ k j, j < k -> (obsK b c k)[j]? = some (obK b c j)
 | 0, j, h => by omega
 | k + 1, j, h => by
  unfold obsK
  by_cases hj : j < k
  ·rw [List.getElem?_append_left (by rw [obsK_len]; exact hj)]; exact obsK_get b c k j hj
  ·have e : j = k := by omega
   subst e
   rw [List.getElem?_append_right (by rw [obsK_len]; exact Nat.le_refl _), obsK_len, Nat.sub_self]; rfl
/-- what is asked ahead of the writing -/
def preW (w : List Nat) : Bool := decide (sizeW w <= w.length - 8) && ((sizeW w == 0) == (serW w == 0))
theorem enc_ob (b : List Nat) (c k : Nat) (hw : (winL b c k).length = wdN c) (hp : preW (winL b c k) = true) : encO (obK b c k) (wdN c) = encW (sizeW (winL b c k)) (serW (winL b c k)) (((winL b c k).drop 8).take (sizeW (winL b c k))) (winL b c k).length := by
 unfold preW at hp
 simp only [Bool.and_eq_true, decide_eq_true_eq] at hp
 unfold encO encW obK
 simp only
 rw [hw, lowL_eq, lowL_eq]
 have hl : (((winL b c k).drop 8).take (sizeW (winL b c k))).length = sizeW (winL b c k) := by
  rw [List.length_take, List.length_drop]; omega
 rw [hl]
theorem ok_pre (w : List Nat) (h8 : 8 <= w.length) (hb : ∀ x ∈ w, x < 256) (hp : preW w = false) : okW w = false := by
 rw [<- ok_ag w h8 hb]
 unfold agW
 unfold preW at hp
 rw [hp]; rfl
theorem ok_enc (w : List Nat) (h8 : 8 <= w.length) (hb : ∀ x ∈ w, x < 256) (hp : preW w = true) : okW w = decide (encW (sizeW w) (serW w) ((w.drop 8).take (sizeW w)) w.length = w) := by
 rw [<- ok_ag w h8 hb]
 unfold agW
 unfold preW at hp
 rw [hp, Bool.true_and]
/-- a page in windows -/
theorem page_win (b : List Nat) (c : Nat) (hb : b.length = 256) : ∀ k, k <= slotsN c -> b.take (k * wdN c) = (List.range k).flatMap (fun j => winL b c j)
 | 0, _ => by simp
 | k + 1, h => by
  rw [List.range_succ, List.flatMap_append, <- page_win b c hb k (by omega), Nat.add_mul, Nat.one_mul]
  rw [List.take_add]
  simp [winL]
theorem encs_range (b : List Nat) (c z : Nat) : ∀ k, encsO (obsK b c k) z = (List.range k).flatMap (fun j => encO (obK b c j) z)
 | 0 => rfl
 | k + 1 => by
  rw [List.range_succ, List.flatMap_append, <- encs_range b c z k]
  unfold encsO
  show List.flatMap _ (obsK b c k ++ [obK b c k]) = _
  rw [List.flatMap_append]; simp
theorem flat_eq {f g : Nat -> List Nat} {z : Nat} (hf : ∀ j, (f j).length = z) : ∀ k, (∀ j, j < k -> (g j).length = z) -> ((List.range k).flatMap f = (List.range k).flatMap g ↔ ∀ j, j < k -> f j = g j)
 | 0, _ => by simp
 | k + 1, hg => by
  rw [List.range_succ, List.flatMap_append, List.flatMap_append]
  have ih := flat_eq hf k (fun j hj => hg j (by omega))
  have hl : ((List.range k).flatMap f).length = ((List.range k).flatMap g).length := by
   have h1 : ∀ (h : Nat -> List Nat) (m : Nat), (∀ j, j < m -> (h j).length = z) -> ((List.range m).flatMap h).length = m * z := by
    intro h m
    induction m with
    | zero => intro _; simp
    | succ m ihm =>
     intro hh
     rw [List.range_succ, List.flatMap_append, List.length_append, ihm (fun j hj => hh j (by omega)), Nat.add_mul]
     simp [hh m (by omega)]
   rw [h1 f k (fun j _ => hf j), h1 g k (fun j hj => hg j (by omega))]
  constructor
  ·intro h j hj
   obtain ⟨e1, e2⟩ := List.append_inj h hl
   rcases Nat.lt_or_eq_of_le (Nat.le_of_lt_succ hj) with h9 | h9
   ·exact ih.1 e1 j h9
   ·subst h9; simpa using e2
  ·intro h
   rw [ih.2 (fun j hj => h j (by omega))]
   simp [h k (by omega)]
theorem page_agree (b : List Nat) (c : Nat) (hb : b.length = 256) (hlt : ∀ x ∈ b, x < 256) (hc : c < 8) (hp : ∀ k, k < slotsN c -> preW (winL b c k) = true) :
  decide (padB (encsO (obsK b c (slotsN c)) (wdN c)) 256 = b) = pageOk b c := by
 have hw : ∀ k, k < slotsN c -> (winL b c k).length = wdN c := fun k hk => winL_len hb hk
 have hwl : ∀ k, ∀ x ∈ winL b c k, x < 256 := fun k x hx => hlt x (List.mem_of_mem_drop (List.mem_of_mem_take hx))
 have hN : slotsN c * wdN c <= 256 := (slots_all c hc).1
 have hel : (encsO (obsK b c (slotsN c)) (wdN c)).length = slotsN c * wdN c := by rw [encsO_len, obsK_len]
 have h1 : padB (encsO (obsK b c (slotsN c)) (wdN c)) 256 = encsO (obsK b c (slotsN c)) (wdN c) ++ List.replicate (256 - slotsN c * wdN c) 0 := by
  unfold padB
  rw [List.take_of_length_le (by rw [hel]; exact hN), hel]
 rw [h1, Bool.eq_iff_iff, decide_eq_true_eq]
 unfold pageOk
 rw [show decide (c < 8) = true by simpa using hc, Bool.true_and, Bool.and_eq_true, List.all_eq_true]
 have h2 := page_win b c hb (slotsN c) (Nat.le_refl _)
 have h3 : zeroB (b.drop (slotsN c * wdN c)) = true ↔ b.drop (slotsN c * wdN c) = List.replicate (256 - slotsN c * wdN c) 0 := by
  rw [zeroB_rep, List.length_drop, hb]
 have h4 : encsO (obsK b c (slotsN c)) (wdN c) ++ List.replicate (256 - slotsN c * wdN c) 0 = b ↔ encsO (obsK b c (slotsN c)) (wdN c) = b.take (slotsN c * wdN c) /\ List.replicate (256 - slotsN c * wdN c) 0 = b.drop (slotsN c * wdN c) := by
  constructor
  ·intro h
   have h5 : encsO (obsK b c (slotsN c)) (wdN c) ++ List.replicate (256 - slotsN c * wdN c) 0 = b.take (slotsN c * wdN c) ++ b.drop (slotsN c * wdN c) := by rw [h, List.take_append_drop]
   exact List.append_inj h5 (by rw [hel, List.length_take, hb]; omega)
  ·rintro ⟨h5, h6⟩
   rw [h5, h6, List.take_append_drop]
 rw [h4, h3, encs_range, h2, flat_eq (fun j => encO_len _ _) (slotsN c) hw]
 have h5 : ∀ k, k < slotsN c -> (encO (obK b c k) (wdN c) = winL b c k ↔ okW (winL b c k) = true) := fun k hk => by
  have hb8 := win_bounds hk
  rw [ok_enc _ (by rw [hw k hk]; omega) (hwl k) (hp k hk), decide_eq_true_eq, enc_ob b c k (hw k hk) (hp k hk)]
 constructor
 ·rintro ⟨h6, h7⟩
  exact ⟨fun k hk => (h5 k (List.mem_range.1 hk)).1 (h6 k (List.mem_range.1 hk)), h7.symm⟩
 ·rintro ⟨h6, h7⟩
  exact ⟨fun k hk => (h5 k hk).2 (h6 k (List.mem_range.2 hk)), h7.symm⟩
theorem page_pre (b : List Nat) (c k : Nat) (hb : b.length = 256) (hlt : ∀ x ∈ b, x < 256) (hk : k < slotsN c) (hp : preW (winL b c k) = false) : pageOk b c = false := by
 unfold pageOk
 have hb8 := win_bounds hk
 rw [all_range_bad (fun k => okW (winL b c k)) _ k hk (ok_pre _ (by have := winL_len hb hk; omega) (fun x hx => hlt x (List.mem_of_mem_drop (List.mem_of_mem_take hx))) hp)]
 simp
/-- rows of objects whose bytes lie in blocks of bytes -/
def ObsT (w : World) (xs : List Value) (L : List Ob) : Prop := ObsV w xs L /\ ∀ (i : Nat) (o : Ob), L[i]? = some o -> ∀ p ln vc, xs[i * 2 + 1]? = some (.slice (some p) ln vc) -> ∃ A z, w.heap[p.block]? = some (.cells A 5 z)
theorem ObsT.nil (w : World) : ObsT w [] [] := ⟨ObsV.nil w, fun i o h => by simp at h⟩
theorem ObsT.up {w w' : World} {xs : List Value} {L : List Ob} (h : ObsT w xs L) (hb : Below w.heap.size w w') : ObsT w' xs L :=
 ⟨h.1.up hb (Nat.le_refl _), fun i o ho p ln vc hx => by
  obtain ⟨A, z, h1⟩ := h.2 i o ho p ln vc hx
  exact ⟨A, z, (hb.block _ (lt_of_block h1)).trans h1⟩⟩
theorem ObsT.grown {w w' : World} {base n : Nat} {v : Value} {ys xs : List Value} {L : List Ob} (h : ObsT w xs L) (hown : w.ownsRow base 85 2 v n ys) (hg : w.grownBy w' v.ownBlock) : ObsT w' xs L := by
 have hne : ∀ (p : Nat) (A : Array Value) (z : Nat × Nat), w.heap[p]? = some (.cells A 5 z) -> v.ownBlock ≠ some p := fun p A z hp e => by
  rcases hown.2 with ⟨h9, _⟩ | ⟨g9, cap9, cur9, a1, a2, a3, a4⟩
  ·rw [h9] at e; cases e
  ·rw [a1] at e; cases e
   have h7 := a3.symm.trans hp
   cases h7
 have hkp : ∀ (p : Nat) (A : Array Value) (z : Nat × Nat), w.heap[p]? = some (.cells A 5 z) -> w'.heap[p]? = w.heap[p]? := fun p A z hp => hg.block p (lt_of_block hp) (fun e => hne p A z hp e.symm)
 refine ⟨⟨h.1.1, fun i o ho => ?_⟩, fun i o ho p ln vc hx => ?_⟩
 ·obtain ⟨va, vc, h1, h2, h3⟩ := h.1.2 i o ho
  refine ⟨va, vc, h1, h2, ?_⟩
  obtain ⟨a, cap, e1, e2, e3⟩ := h3
  cases e1
  refine ⟨va, vc, rfl, bytes_keep e2 (fun g of e hgl => ?_), e3⟩
  subst e
  obtain ⟨A, z, h4⟩ := h.2 i o ho _ _ _ h2
  exact hkp g A z h4
 ·obtain ⟨A, z, h1⟩ := h.2 i o ho p ln vc hx
  exact ⟨A, z, (hkp _ A z h1).trans h1⟩
theorem ObsT.snoc {w : World} {xs : List Value} {L : List Ob} (h : ObsT w xs L) {o : Ob} {va : Option Addr} {vc : Nat} (hs : SlAt w (.slice va o.b.length vc) o.b) (ht : ∀ p, va = some p -> ∃ A z, w.heap[p.block]? = some (.cells A 5 z)) : ObsT w (xs ++ [.int .u64 (o.ser : Int), .slice va o.b.length vc]) (L ++ [o]) := by
 refine ⟨h.1.snoc hs, fun i p hp q ln c hx => ?_⟩
 by_cases hi : i < L.length
 ·rw [List.getElem?_append_left hi] at hp
  rw [List.getElem?_append_left (by rw [h.1.1]; omega)] at hx
  exact h.2 i p hp q ln c hx
 ·have hlt := (List.getElem?_eq_some_iff.1 hp).1
  have hi2 : i = L.length := by simp at hlt; omega
  subst hi2
  rw [List.getElem?_append_right (by rw [h.1.1]; omega), h.1.1, Nat.add_sub_cancel_left] at hx
  have e : va = some q := by
   have : (Value.slice va o.b.length vc) = .slice (some q) ln c := by simpa using hx
   cases this; rfl
  exact ht q e
theorem own_ob {w : World} {base n c : Nat} {a : Option Addr} {xs : List Value} (h : w.ownsRow base 85 2 (.slice a n c) n xs) : ∀ p, a = some p -> ∃ A z, w.heap[p.block]? = some (Obj.cells A 85 z) := by
 intro p hp
 rcases h.2 with ⟨h9, _⟩ | ⟨g9, cap9, cur9, a1, a2, a3, a4⟩
 ·cases h9; cases hp
 ·cases a1; cases hp; exact ⟨_, _, a3⟩
/-- the serials of objects, and where they lie -/
def ObsS (w : World) (a : Option Addr) (L : List Ob) : Prop := (∀ q, a = some q -> ∃ A z, w.heap[q.block]? = some (Obj.cells A 85 z)) /\ ∀ (i : Nat) (o : Ob), L[i]? = some o -> ∃ g of va vc, a = some ⟨g, of, none⟩ /\ w.rangeAt g (of + i * 2) [.int .u64 (o.ser : Int), .slice va o.b.length vc]
theorem ObsS.keep {w w' : World} {a : Option Addr} {L : List Ob} (h : ObsS w a L) (hk : ∀ (q : Nat) (A : Array Value) (z : Nat × Nat), w.heap[q]? = some (Obj.cells A 85 z) -> w'.heap[q]? = w.heap[q]?) : ObsS w' a L := by
 refine ⟨fun q hq => ?_, fun i o ho => ?_⟩
 ·obtain ⟨A, z, h1⟩ := h.1 q hq
  exact ⟨A, z, (hk _ A z h1).trans h1⟩
 ·obtain ⟨g, of, va, vc, h1, h2⟩ := h.2 i o ho
  obtain ⟨A, z, h3⟩ := h.1 _ h1
  exact ⟨g, of, va, vc, h1, fun j u hu => (World.cell?_of_block (hk g A z h3)).trans (h2 j u hu)⟩
theorem ObsS.up {w w' : World} {a : Option Addr} {L : List Ob} (h : ObsS w a L) (hb : Below w.heap.size w w') : ObsS w' a L := h.keep fun q A z hq => hb.block q (lt_of_block hq)
theorem ObsS.grown {w w' : World} {a : Option Addr} {L : List Ob} {B n z : Nat} {v : Value} {x : List Value} {t : TypeId} (h : ObsS w a L) (hown : w.ownsRow B t z v n x) (hg : w.grownBy w' v.ownBlock) (ht : t ≠ 85) : ObsS w' a L := h.keep fun q A z2 hq => hg.block q (lt_of_block hq) (fun e => by
 rcases hown.2 with ⟨h9, _⟩ | ⟨g9, cap9, cur9, a1, a2, a3, a4⟩
 ·rw [h9] at e; cases e
 ·rw [a1] at e; cases e
  have h7 := a3.symm.trans hq
  cases h7
  exact ht rfl)
theorem own_u8 {w : World} {base n c : Nat} {a : Option Addr} {xs : List Value} (h : w.ownsRow base 5 1 (.slice a n c) n xs) : ∀ p, a = some p -> ∃ A z, w.heap[p.block]? = some (.cells A 5 z) := by
 intro p hp
 rcases h.2 with ⟨h9, _⟩ | ⟨g9, cap9, cur9, a1, a2, a3, a4⟩
 ·cases h9; cases hp
 ·cases a1; cases hp; exact ⟨_, _, a3⟩
def opsQO : {o : Array Oper // some o = (Tryz.f28.body.bind (Fre.findR 13))} := ⟨_, rfl⟩
theorem fitQO : Fre.fit .any opsQO.1 79 = true := by kernel_rfl
theorem sizeQO : opsQO.1.size = 9 := by kernel_rfl
theorem tailQO : Fre.tailFitT .any opsQO.1 6 = true := by kernel_rfl
def VQO (g so zl sc pb nn n8 x8 c8 sr : Nat) (i : Nat) (v : Value) (w : World) : Prop := match i with
 | 0 => v = .pointer (some ⟨pb, 1, none⟩)
 | 1 => v = .slice none 0 0
 | 2 => v = .slice (some ⟨g, so, none⟩) zl sc
 | 3 => v = .int .i64 (nn : Int)
 | 4 => v = .int .i64 (n8 : Int)
 | 5 => v = .slice (some ⟨g, x8, none⟩) nn c8
 | _ => True
theorem stQO_0 (g so zl sc pb nn n8 x8 c8 sr : Nat) (a0 : Act) (g911 : a0.tmps.getD 11 undef = .pointer (some ⟨pb, 0, none⟩)) (w0 : World) (h8 : n8 = 8 + nn) (hle : n8 <= sc) (hn : nn <= 65535) (hx : x8 = subO so sc 8) (hc8 : c8 = sc - 8) (h0 : w0.heap[pb]? = some (.cells #[.int .u64 (sr : Int), .slice none 0 0] 85 (0, 0))) : Fre.StepB Tryz.prog opsQO.1 a0 w0 (VQO g so zl sc pb nn n8 x8 c8 sr) Fre.Kept 0 := by
 intro E w hc hf hE hV hN hS o ho
 obtain rfl := Option.some.inj ho
 clear ho
 simp only [opsQO, List.getElem_toArray, List.getElem_cons_succ, List.getElem_cons_zero]
 have b11 : E (.tmp 11) = .pointer (some ⟨pb, 0, none⟩) := (hE 11 (by kernel_rfl)).trans g911
 clear g911
 clear h8 hx hc8
 refine Fre.Does.value (v := .pointer (some ⟨pb, 1, none⟩)) (w' := w) ?_ ⟨rfl, Fre.Kept.refl _⟩
 go_simp
theorem stQO_1 (g so zl sc pb nn n8 x8 c8 sr : Nat) (a0 : Act)  (w0 : World) (h8 : n8 = 8 + nn) (hle : n8 <= sc) (hn : nn <= 65535) (hx : x8 = subO so sc 8) (hc8 : c8 = sc - 8) (h0 : w0.heap[pb]? = some (.cells #[.int .u64 (sr : Int), .slice none 0 0] 85 (0, 0))) : Fre.StepB Tryz.prog opsQO.1 a0 w0 (VQO g so zl sc pb nn n8 x8 c8 sr) Fre.Kept 1 := by
 intro E w hc hf hE hV hN hS o ho
 obtain rfl := Option.some.inj ho
 clear ho
 simp only [opsQO, List.getElem_toArray, List.getElem_cons_succ, List.getElem_cons_zero]
 have d0 := hV 0 59 (by kernel_rfl) (by kernel_rfl)
 have d0 : E (.tmp 59) = .pointer (some ⟨pb, 1, none⟩) := d0
 have cc := (cells_at ((hS.block pb (lt_of_block h0)).trans h0) 1).trans (show _ = some (Value.slice none 0 0) from rfl)
 clear h8 hx hc8
 refine Fre.Does.value (v := .slice none 0 0) (w' := w) ?_ ⟨rfl, Fre.Kept.refl _⟩
 go_simp
theorem stQO_2 (g so zl sc pb nn n8 x8 c8 sr : Nat) (a0 : Act) (g99 : a0.tmps.getD 9 undef = .slice (some ⟨g, so, none⟩) zl sc) (w0 : World) (h8 : n8 = 8 + nn) (hle : n8 <= sc) (hn : nn <= 65535) (hx : x8 = subO so sc 8) (hc8 : c8 = sc - 8) (h0 : w0.heap[pb]? = some (.cells #[.int .u64 (sr : Int), .slice none 0 0] 85 (0, 0))) : Fre.StepB Tryz.prog opsQO.1 a0 w0 (VQO g so zl sc pb nn n8 x8 c8 sr) Fre.Kept 2 := by
 intro E w hc hf hE hV hN hS o ho
 obtain rfl := Option.some.inj ho
 clear ho
 simp only [opsQO, List.getElem_toArray, List.getElem_cons_succ, List.getElem_cons_zero]
 have b9 : E (.tmp 9) = .slice (some ⟨g, so, none⟩) zl sc := (hE 9 (by kernel_rfl)).trans g99
 clear g99
 clear h8 hx hc8
 refine Fre.Does.value (v := .slice (some ⟨g, so, none⟩) zl sc) (w' := w) ?_ ⟨rfl, Fre.Kept.refl _⟩
 go_simp
theorem stQO_3 (g so zl sc pb nn n8 x8 c8 sr : Nat) (a0 : Act) (g910 : a0.tmps.getD 10 undef = .int .i64 (nn : Int)) (w0 : World) (h8 : n8 = 8 + nn) (hle : n8 <= sc) (hn : nn <= 65535) (hx : x8 = subO so sc 8) (hc8 : c8 = sc - 8) (h0 : w0.heap[pb]? = some (.cells #[.int .u64 (sr : Int), .slice none 0 0] 85 (0, 0))) : Fre.StepB Tryz.prog opsQO.1 a0 w0 (VQO g so zl sc pb nn n8 x8 c8 sr) Fre.Kept 3 := by
 intro E w hc hf hE hV hN hS o ho
 obtain rfl := Option.some.inj ho
 clear ho
 simp only [opsQO, List.getElem_toArray, List.getElem_cons_succ, List.getElem_cons_zero]
 have b10 : E (.tmp 10) = .int .i64 (nn : Int) := (hE 10 (by kernel_rfl)).trans g910
 clear g910
 clear h8 hx hc8
 refine Fre.Does.value (v := .int .i64 (nn : Int)) (w' := w) ?_ ⟨rfl, Fre.Kept.refl _⟩
 go_simp
theorem stQO_4 (g so zl sc pb nn n8 x8 c8 sr : Nat) (a0 : Act)  (w0 : World) (h8 : n8 = 8 + nn) (hle : n8 <= sc) (hn : nn <= 65535) (hx : x8 = subO so sc 8) (hc8 : c8 = sc - 8) (h0 : w0.heap[pb]? = some (.cells #[.int .u64 (sr : Int), .slice none 0 0] 85 (0, 0))) : Fre.StepB Tryz.prog opsQO.1 a0 w0 (VQO g so zl sc pb nn n8 x8 c8 sr) Fre.Kept 4 := by
 intro E w hc hf hE hV hN hS o ho
 obtain rfl := Option.some.inj ho
 clear ho
 simp only [opsQO, List.getElem_toArray, List.getElem_cons_succ, List.getElem_cons_zero]
 have d3 := hV 3 62 (by kernel_rfl) (by kernel_rfl)
 have d3 : E (.tmp 62) = .int .i64 (nn : Int) := d3
 have e1 : 8 + (nn : Int) = (n8 : Int) := by omega
 have e2 : IntKind.i64.wrap (n8 : Int) = (n8 : Int) := IntWalk.i64_in _ (by omega)
 clear h8 hx hc8
 refine Fre.Does.value (v := .int .i64 (n8 : Int)) (w' := w) ?_ ⟨rfl, Fre.Kept.refl _⟩
 go_simp
theorem stQO_5 (g so zl sc pb nn n8 x8 c8 sr : Nat) (a0 : Act)  (w0 : World) (h8 : n8 = 8 + nn) (hle : n8 <= sc) (hn : nn <= 65535) (hx : x8 = subO so sc 8) (hc8 : c8 = sc - 8) (h0 : w0.heap[pb]? = some (.cells #[.int .u64 (sr : Int), .slice none 0 0] 85 (0, 0))) : Fre.StepB Tryz.prog opsQO.1 a0 w0 (VQO g so zl sc pb nn n8 x8 c8 sr) Fre.Kept 5 := by
 intro E w hc hf hE hV hN hS o ho
 obtain rfl := Option.some.inj ho
 clear ho
 simp only [opsQO, List.getElem_toArray, List.getElem_cons_succ, List.getElem_cons_zero]
 have d2 := hV 2 61 (by kernel_rfl) (by kernel_rfl)
 have d2 : E (.tmp 61) = .slice (some ⟨g, so, none⟩) zl sc := d2
 have d4 := hV 4 63 (by kernel_rfl) (by kernel_rfl)
 have d4 : E (.tmp 63) = .int .i64 (n8 : Int) := d4
 have hr := run_sub g so zl sc 8 n8 (by omega) hle w
 rw [show n8 - 8 = nn by omega, <- hx, <- hc8] at hr
 have h8i : ((8 : Nat) : Int) = (8 : Int) := rfl
 rw [h8i] at hr
 refine Fre.Does.value (v := .slice (some ⟨g, x8, none⟩) nn c8) (w' := w) ?_ ⟨rfl, Fre.Kept.refl _⟩
 unfold execOp
 simp only [d2, d4, hc, Option.map_some, Option.map_none, Sem.run_bind, hr, Result.andThen_ok]
 rfl
theorem kpQO (g so zl sc pb nn n8 x8 c8 sr : Nat) : ∀ j v w w', j < 6 -> VQO g so zl sc pb nn n8 x8 c8 sr j v w -> Fre.Kept w w' -> VQO g so zl sc pb nn n8 x8 c8 sr j v w' := by
 intro j v w w' hj h hs
 have hc : j = 0 \/ j = 1 \/ j = 2 \/ j = 3 \/ j = 4 \/ j = 5 := by omega
 rcases hc with rfl | rfl | rfl | rfl | rfl | rfl
 ·exact h
 ·exact h
 ·exact h
 ·exact h
 ·exact h
 ·exact h
section
variable {u0 u1 u2 u3 u4 u5 u6 u7 u8 u12 u13 u14 u15 u16 u17 u18 u19 u20 u21 u22 u23 u24 u25 u26 u27 u28 u29 u30 u31 u32 u33 u34 u35 u36 u37 u38 u39 u40 u41 u42 u43 u44 u45 u46 u47 u48 u49 u50 u51 u52 u53 u54 u55 u56 u57 u58 u59 u60 u61 u62 u63 u64 u65 u66 u67 u68 u69 u70 u71 u72 u73 u74 u75 u76 u77 u78 : Value}
theorem finQO (g so zl sc pb nn n8 x8 c8 sr : Nat) (vs : Nat -> Value) : Fre.finT opsQO.1 vs #[u0, u1, u2, u3, u4, u5, u6, u7, u8, .slice (some ⟨g, so, none⟩) zl sc, .int .i64 (nn : Int), .pointer (some ⟨pb, 0, none⟩), u12, u13, u14, u15, u16, u17, u18, u19, u20, u21, u22, u23, u24, u25, u26, u27, u28, u29, u30, u31, u32, u33, u34, u35, u36, u37, u38, u39, u40, u41, u42, u43, u44, u45, u46, u47, u48, u49, u50, u51, u52, u53, u54, u55, u56, u57, u58, u59, u60, u61, u62, u63, u64, u65, u66, u67, u68, u69, u70, u71, u72, u73, u74, u75, u76, u77, u78] 6 = #[u0, u1, u2, u3, u4, u5, u6, u7, u8, .slice (some ⟨g, so, none⟩) zl sc, .int .i64 (nn : Int), .pointer (some ⟨pb, 0, none⟩), u12, u13, u14, u15, u16, u17, u18, u19, u20, u21, u22, u23, u24, u25, u26, u27, u28, u29, u30, u31, u32, u33, u34, u35, u36, u37, u38, u39, u40, u41, u42, u43, u44, u45, u46, u47, u48, u49, u50, u51, u52, u53, u54, u55, u56, u57, u58, vs 0, vs 1, vs 2, vs 3, vs 4, vs 5, u65, u66, u67, u68, u69, u70, u71, u72, u73, u74, u75, u76, u77, u78] := by kernel_rfl
theorem regionQO (g so zl sc pb nn n8 x8 c8 sr : Nat) (w0 : World) (h8 : n8 = 8 + nn) (hle : n8 <= sc) (hn : nn <= 65535) (hx : x8 = subO so sc 8) (hc8 : c8 = sc - 8) (h0 : w0.heap[pb]? = some (.cells #[.int .u64 (sr : Int), .slice none 0 0] 85 (0, 0))) {QQ : Exit -> Act -> World -> Prop} (hQ : ∀ (vs : Nat -> Value) w, (∀ j, j < 6 -> VQO g so zl sc pb nn n8 x8 c8 sr j (vs j) w) -> Fre.Kept w0 w -> wpList Tryz.prog opsQO.1 QQ (opsQO.1.toList.drop 6) ⟨#[u0, u1, u2, u3, u4, u5, u6, u7, u8, .slice (some ⟨g, so, none⟩) zl sc, .int .i64 (nn : Int), .pointer (some ⟨pb, 0, none⟩), u12, u13, u14, u15, u16, u17, u18, u19, u20, u21, u22, u23, u24, u25, u26, u27, u28, u29, u30, u31, u32, u33, u34, u35, u36, u37, u38, u39, u40, u41, u42, u43, u44, u45, u46, u47, u48, u49, u50, u51, u52, u53, u54, u55, u56, u57, u58, vs 0, vs 1, vs 2, vs 3, vs 4, vs 5, u65, u66, u67, u68, u69, u70, u71, u72, u73, u74, u75, u76, u77, u78], []⟩ w) : (Code.region 13 opsQO.1 true).wp Tryz.prog QQ ⟨#[u0, u1, u2, u3, u4, u5, u6, u7, u8, .slice (some ⟨g, so, none⟩) zl sc, .int .i64 (nn : Int), .pointer (some ⟨pb, 0, none⟩), u12, u13, u14, u15, u16, u17, u18, u19, u20, u21, u22, u23, u24, u25, u26, u27, u28, u29, u30, u31, u32, u33, u34, u35, u36, u37, u38, u39, u40, u41, u42, u43, u44, u45, u46, u47, u48, u49, u50, u51, u52, u53, u54, u55, u56, u57, u58, u59, u60, u61, u62, u63, u64, u65, u66, u67, u68, u69, u70, u71, u72, u73, u74, u75, u76, u77, u78], []⟩ w0 := by
 refine Fre.region_tailT 79 6 (by kernel_rfl) fitQO rfl tailQO (by rw [sizeQO]; omega) (VQO g so zl sc pb nn n8 x8 c8 sr) (kpQO g so zl sc pb nn n8 x8 c8 sr) (fun i hi => ?_) (fun vs w h1 h2 => ?_)
 case refine_2 =>
  have e9 := @finQO u0 u1 u2 u3 u4 u5 u6 u7 u8 u12 u13 u14 u15 u16 u17 u18 u19 u20 u21 u22 u23 u24 u25 u26 u27 u28 u29 u30 u31 u32 u33 u34 u35 u36 u37 u38 u39 u40 u41 u42 u43 u44 u45 u46 u47 u48 u49 u50 u51 u52 u53 u54 u55 u56 u57 u58 u59 u60 u61 u62 u63 u64 u65 u66 u67 u68 u69 u70 u71 u72 u73 u74 u75 u76 u77 u78 g so zl sc pb nn n8 x8 c8 sr vs
  have h9 := hQ vs w h1 h2
  rw [<- e9] at h9
  exact h9
 have hc : i = 0 \/ i = 1 \/ i = 2 \/ i = 3 \/ i = 4 \/ i = 5 := by omega
 rcases hc with rfl | rfl | rfl | rfl | rfl | rfl
 ·exact stQO_0 g so zl sc pb nn n8 x8 c8 sr _ rfl w0 h8 hle hn hx hc8 h0
 ·exact stQO_1 g so zl sc pb nn n8 x8 c8 sr _  w0 h8 hle hn hx hc8 h0
 ·exact stQO_2 g so zl sc pb nn n8 x8 c8 sr _ rfl w0 h8 hle hn hx hc8 h0
 ·exact stQO_3 g so zl sc pb nn n8 x8 c8 sr _ rfl w0 h8 hle hn hx hc8 h0
 ·exact stQO_4 g so zl sc pb nn n8 x8 c8 sr _  w0 h8 hle hn hx hc8 h0
 ·exact stQO_5 g so zl sc pb nn n8 x8 c8 sr _  w0 h8 hle hn hx hc8 h0
end
def opsQS : {o : Array Oper // some o = (Tryz.f28.body.bind (Fre.findR 15))} := ⟨_, rfl⟩
theorem fitQS : Fre.fit .any opsQS.1 79 = true := by kernel_rfl
theorem sizeQS : opsQS.1.size = 7 := by kernel_rfl
def VQS (g o n cap c N c1 : Nat) (a : Option Addr) (b E0 : List Nat) (i : Nat) (v : Value) (w : World) : Prop := match i with
 | 0 => v = .slice a N c1
 | 1 => v = .int .i64 (c : Int)
 | 2 => ∃ a c, v = .slice a 256 c /\ BytesAt w a c E0
 | 3 => v = strV E0
 | 4 => v = .slice (some ⟨g, o, none⟩) n cap
 | 5 => v = strV b
 | 6 => v = .bool (!decide (E0 = b))
 | _ => True
theorem stQS_0 (g o n cap c N c1 : Nat) (a : Option Addr) (b E0 : List Nat) (a0 : Act) (g97 : a0.tmps.getD 7 undef = .slice a N c1) (w0 : World) (hn : b.length = n) (hb : BytesAt w0 (some ⟨g, o, none⟩) cap b) (hEn : E0.length = 256) (hEl : ∀ x ∈ E0, x < 256) (hPG : ∀ w', Below w0.heap.size w0 w' -> Calls Tryz.prog 59 #[.slice a N c1, .int .i64 (c : Int)] w' fun e w'' => ∃ v, e = .returned v /\ w''.ownsRow w'.heap.size 5 1 v 256 (bA E0).toList /\ Below w'.heap.size w' w'') : Fre.StepB Tryz.prog opsQS.1 a0 w0 (VQS g o n cap c N c1 a b E0) Fre.Kept 0 := by
 intro E w hc hf hE hV hN hS o ho
 obtain rfl := Option.some.inj ho
 clear ho
 simp only [opsQS, List.getElem_toArray, List.getElem_cons_succ, List.getElem_cons_zero]
 have b7 : E (.tmp 7) = .slice a N c1 := (hE 7 (by kernel_rfl)).trans g97
 clear g97
 clear hn hEn
 refine Fre.Does.value (v := .slice a N c1) (w' := w) ?_ ⟨rfl, Fre.Kept.refl _⟩
 go_simp
theorem stQS_1 (g o n cap c N c1 : Nat) (a : Option Addr) (b E0 : List Nat) (a0 : Act) (g91 : a0.tmps.getD 1 undef = .int .i64 (c : Int)) (w0 : World) (hn : b.length = n) (hb : BytesAt w0 (some ⟨g, o, none⟩) cap b) (hEn : E0.length = 256) (hEl : ∀ x ∈ E0, x < 256) (hPG : ∀ w', Below w0.heap.size w0 w' -> Calls Tryz.prog 59 #[.slice a N c1, .int .i64 (c : Int)] w' fun e w'' => ∃ v, e = .returned v /\ w''.ownsRow w'.heap.size 5 1 v 256 (bA E0).toList /\ Below w'.heap.size w' w'') : Fre.StepB Tryz.prog opsQS.1 a0 w0 (VQS g o n cap c N c1 a b E0) Fre.Kept 1 := by
 intro E w hc hf hE hV hN hS o ho
 obtain rfl := Option.some.inj ho
 clear ho
 simp only [opsQS, List.getElem_toArray, List.getElem_cons_succ, List.getElem_cons_zero]
 have b1 : E (.tmp 1) = .int .i64 (c : Int) := (hE 1 (by kernel_rfl)).trans g91
 clear g91
 clear hn hEn
 refine Fre.Does.value (v := .int .i64 (c : Int)) (w' := w) ?_ ⟨rfl, Fre.Kept.refl _⟩
 go_simp
theorem stQS_2 (g o n cap c N c1 : Nat) (a : Option Addr) (b E0 : List Nat) (a0 : Act)  (w0 : World) (hn : b.length = n) (hb : BytesAt w0 (some ⟨g, o, none⟩) cap b) (hEn : E0.length = 256) (hEl : ∀ x ∈ E0, x < 256) (hPG : ∀ w', Below w0.heap.size w0 w' -> Calls Tryz.prog 59 #[.slice a N c1, .int .i64 (c : Int)] w' fun e w'' => ∃ v, e = .returned v /\ w''.ownsRow w'.heap.size 5 1 v 256 (bA E0).toList /\ Below w'.heap.size w' w'') : Fre.StepB Tryz.prog opsQS.1 a0 w0 (VQS g o n cap c N c1 a b E0) Fre.Kept 2 := by
 intro E w hc hf hE hV hN hS o ho
 obtain rfl := Option.some.inj ho
 clear ho
 simp only [opsQS, List.getElem_toArray, List.getElem_cons_succ, List.getElem_cons_zero]
 have d0 := hV 0 71 (by kernel_rfl) (by kernel_rfl)
 have d0 : E (.tmp 71) = .slice a N c1 := d0
 have d1 := hV 1 72 (by kernel_rfl) (by kernel_rfl)
 have d1 : E (.tmp 72) = .int .i64 (c : Int) := d1
 refine Fre.Does.enter (f := 59) (args := #[.slice a N c1, .int .i64 (c : Int)]) (w' := w) ?_ ((hPG w hS).mono ?_)
 ·clear hn hEn hPG; go_simp
 ·rintro e w' ⟨v, rfl, hown, hk'⟩
  obtain ⟨a2, c2, rfl, hbt, _⟩ := own_bytes hEl hown
  exact ⟨_, rfl, ⟨a2, c2, rfl, hbt⟩, hk'⟩
theorem stQS_3 (g o n cap c N c1 : Nat) (a : Option Addr) (b E0 : List Nat) (a0 : Act)  (w0 : World) (hn : b.length = n) (hb : BytesAt w0 (some ⟨g, o, none⟩) cap b) (hEn : E0.length = 256) (hEl : ∀ x ∈ E0, x < 256) (hPG : ∀ w', Below w0.heap.size w0 w' -> Calls Tryz.prog 59 #[.slice a N c1, .int .i64 (c : Int)] w' fun e w'' => ∃ v, e = .returned v /\ w''.ownsRow w'.heap.size 5 1 v 256 (bA E0).toList /\ Below w'.heap.size w' w'') : Fre.StepB Tryz.prog opsQS.1 a0 w0 (VQS g o n cap c N c1 a b E0) Fre.Kept 3 := by
 intro E w hc hf hE hV hN hS o ho
 obtain rfl := Option.some.inj ho
 clear ho
 simp only [opsQS, List.getElem_toArray, List.getElem_cons_succ, List.getElem_cons_zero]
 have d2 := hV 2 73 (by kernel_rfl) (by kernel_rfl)
 replace d2 : (fun v : Value => ∃ a c, v = .slice a 256 c /\ BytesAt w a c E0) (E (.tmp 73)) := d2
 simp only at d2
 obtain ⟨a2, c2, e, f⟩ := d2
 exact Fre.Does.value (run_conv_op (w := w) hEn f E (.tmp 73) _ rfl e) ⟨rfl, Fre.Kept.refl _⟩
theorem stQS_4 (g o n cap c N c1 : Nat) (a : Option Addr) (b E0 : List Nat) (a0 : Act) (g90 : a0.tmps.getD 0 undef = .slice (some ⟨g, o, none⟩) n cap) (w0 : World) (hn : b.length = n) (hb : BytesAt w0 (some ⟨g, o, none⟩) cap b) (hEn : E0.length = 256) (hEl : ∀ x ∈ E0, x < 256) (hPG : ∀ w', Below w0.heap.size w0 w' -> Calls Tryz.prog 59 #[.slice a N c1, .int .i64 (c : Int)] w' fun e w'' => ∃ v, e = .returned v /\ w''.ownsRow w'.heap.size 5 1 v 256 (bA E0).toList /\ Below w'.heap.size w' w'') : Fre.StepB Tryz.prog opsQS.1 a0 w0 (VQS g o n cap c N c1 a b E0) Fre.Kept 4 := by
 intro E w hc hf hE hV hN hS o ho
 obtain rfl := Option.some.inj ho
 clear ho
 simp only [opsQS, List.getElem_toArray, List.getElem_cons_succ, List.getElem_cons_zero]
 have b0 : E (.tmp 0) = .slice (some ⟨g, o, none⟩) n cap := (hE 0 (by kernel_rfl)).trans g90
 clear g90
 clear hn hEn
 refine Fre.Does.value (v := .slice (some ⟨g, o, none⟩) n cap) (w' := w) ?_ ⟨rfl, Fre.Kept.refl _⟩
 go_simp
theorem stQS_5 (g o n cap c N c1 : Nat) (a : Option Addr) (b E0 : List Nat) (a0 : Act)  (w0 : World) (hn : b.length = n) (hb : BytesAt w0 (some ⟨g, o, none⟩) cap b) (hEn : E0.length = 256) (hEl : ∀ x ∈ E0, x < 256) (hPG : ∀ w', Below w0.heap.size w0 w' -> Calls Tryz.prog 59 #[.slice a N c1, .int .i64 (c : Int)] w' fun e w'' => ∃ v, e = .returned v /\ w''.ownsRow w'.heap.size 5 1 v 256 (bA E0).toList /\ Below w'.heap.size w' w'') : Fre.StepB Tryz.prog opsQS.1 a0 w0 (VQS g o n cap c N c1 a b E0) Fre.Kept 5 := by
 intro E w hc hf hE hV hN hS o ho
 obtain rfl := Option.some.inj ho
 clear ho
 simp only [opsQS, List.getElem_toArray, List.getElem_cons_succ, List.getElem_cons_zero]
 have d4 := hV 4 75 (by kernel_rfl) (by kernel_rfl)
 have d4 : E (.tmp 75) = .slice (some ⟨g, o, none⟩) n cap := d4
 exact Fre.Does.value (run_conv_op (w := w) hn (hb.up hS (Nat.le_refl _)) E (.tmp 75) _ rfl d4) ⟨rfl, Fre.Kept.refl _⟩
theorem stQS_6 (g o n cap c N c1 : Nat) (a : Option Addr) (b E0 : List Nat) (a0 : Act)  (w0 : World) (hn : b.length = n) (hb : BytesAt w0 (some ⟨g, o, none⟩) cap b) (hEn : E0.length = 256) (hEl : ∀ x ∈ E0, x < 256) (hPG : ∀ w', Below w0.heap.size w0 w' -> Calls Tryz.prog 59 #[.slice a N c1, .int .i64 (c : Int)] w' fun e w'' => ∃ v, e = .returned v /\ w''.ownsRow w'.heap.size 5 1 v 256 (bA E0).toList /\ Below w'.heap.size w' w'') : Fre.StepB Tryz.prog opsQS.1 a0 w0 (VQS g o n cap c N c1 a b E0) Fre.Kept 6 := by
 intro E w hc hf hE hV hN hS o ho
 obtain rfl := Option.some.inj ho
 clear ho
 simp only [opsQS, List.getElem_toArray, List.getElem_cons_succ, List.getElem_cons_zero]
 have d3 := hV 3 74 (by kernel_rfl) (by kernel_rfl)
 have d3 : E (.tmp 74) = strV E0 := d3
 have d5 := hV 5 76 (by kernel_rfl) (by kernel_rfl)
 have d5 : E (.tmp 76) = strV b := d5
 exact Fre.Does.value (run_nes E0 b hEl hb.1 E (.tmp 74) (.tmp 76) _ _ rfl d3 d5 w) ⟨rfl, Fre.Kept.refl _⟩
theorem kpQS (g o n cap c N c1 : Nat) (a : Option Addr) (b E0 : List Nat) : ∀ j v w w', j < opsQS.1.size -> VQS g o n cap c N c1 a b E0 j v w -> Fre.Kept w w' -> VQS g o n cap c N c1 a b E0 j v w' := by
 intro j v w w' hj h hs
 rw [sizeQS] at hj
 have hc : j = 0 \/ j = 1 \/ j = 2 \/ j = 3 \/ j = 4 \/ j = 5 \/ j = 6 := by omega
 rcases hc with rfl | rfl | rfl | rfl | rfl | rfl | rfl
 ·exact h
 ·exact h
 ·change ∃ a c, v = .slice a 256 c /\ BytesAt w a c E0 at h
  obtain ⟨a, c, h1, h2⟩ := h
  exact ⟨a, c, h1, h2.up hs (Nat.le_refl _)⟩
 ·exact h
 ·exact h
 ·exact h
 ·exact h
section
variable {u2 u3 u4 u5 u6 u8 u9 u10 u11 u12 u13 u14 u15 u16 u17 u18 u19 u20 u21 u22 u23 u24 u25 u26 u27 u28 u29 u30 u31 u32 u33 u34 u35 u36 u37 u38 u39 u40 u41 u42 u43 u44 u45 u46 u47 u48 u49 u50 u51 u52 u53 u54 u55 u56 u57 u58 u59 u60 u61 u62 u63 u64 u65 u66 u67 u68 u69 u70 u71 u72 u73 u74 u75 u76 u77 u78 : Value}
theorem finQS (g o n cap c N c1 : Nat) (a : Option Addr) (b E0 : List Nat) (vs : Nat -> Value) : Fre.finT opsQS.1 vs #[.slice (some ⟨g, o, none⟩) n cap, .int .i64 (c : Int), u2, u3, u4, u5, u6, .slice a N c1, u8, u9, u10, u11, u12, u13, u14, u15, u16, u17, u18, u19, u20, u21, u22, u23, u24, u25, u26, u27, u28, u29, u30, u31, u32, u33, u34, u35, u36, u37, u38, u39, u40, u41, u42, u43, u44, u45, u46, u47, u48, u49, u50, u51, u52, u53, u54, u55, u56, u57, u58, u59, u60, u61, u62, u63, u64, u65, u66, u67, u68, u69, u70, u71, u72, u73, u74, u75, u76, u77, u78] opsQS.1.size = #[.slice (some ⟨g, o, none⟩) n cap, .int .i64 (c : Int), u2, u3, u4, u5, u6, .slice a N c1, u8, u9, u10, u11, u12, u13, u14, u15, u16, u17, u18, u19, u20, u21, u22, u23, u24, u25, u26, u27, u28, u29, u30, u31, u32, u33, u34, u35, u36, u37, u38, u39, u40, u41, u42, u43, u44, u45, u46, u47, u48, u49, u50, u51, u52, u53, u54, u55, u56, u57, u58, u59, u60, u61, u62, u63, u64, u65, u66, u67, u68, u69, u70, vs 0, vs 1, vs 2, vs 3, vs 4, vs 5, vs 6, u78] := by kernel_rfl
theorem regionQS (g o n cap c N c1 : Nat) (a : Option Addr) (b E0 : List Nat) (w0 : World) (hn : b.length = n) (hb : BytesAt w0 (some ⟨g, o, none⟩) cap b) (hEn : E0.length = 256) (hEl : ∀ x ∈ E0, x < 256) (hPG : ∀ w', Below w0.heap.size w0 w' -> Calls Tryz.prog 59 #[.slice a N c1, .int .i64 (c : Int)] w' fun e w'' => ∃ v, e = .returned v /\ w''.ownsRow w'.heap.size 5 1 v 256 (bA E0).toList /\ Below w'.heap.size w' w'') {QQ : Exit -> Act -> World -> Prop} (hQ : ∀ (vs : Nat -> Value) w, (∀ j, j < 7 -> VQS g o n cap c N c1 a b E0 j (vs j) w) -> Fre.Kept w0 w -> QQ .normal ⟨#[.slice (some ⟨g, o, none⟩) n cap, .int .i64 (c : Int), u2, u3, u4, u5, u6, .slice a N c1, u8, u9, u10, u11, u12, u13, u14, u15, u16, u17, u18, u19, u20, u21, u22, u23, u24, u25, u26, u27, u28, u29, u30, u31, u32, u33, u34, u35, u36, u37, u38, u39, u40, u41, u42, u43, u44, u45, u46, u47, u48, u49, u50, u51, u52, u53, u54, u55, u56, u57, u58, u59, u60, u61, u62, u63, u64, u65, u66, u67, u68, u69, u70, vs 0, vs 1, vs 2, vs 3, vs 4, vs 5, vs 6, u78], []⟩ w) : (Code.region 15 opsQS.1 true).wp Tryz.prog QQ ⟨#[.slice (some ⟨g, o, none⟩) n cap, .int .i64 (c : Int), u2, u3, u4, u5, u6, .slice a N c1, u8, u9, u10, u11, u12, u13, u14, u15, u16, u17, u18, u19, u20, u21, u22, u23, u24, u25, u26, u27, u28, u29, u30, u31, u32, u33, u34, u35, u36, u37, u38, u39, u40, u41, u42, u43, u44, u45, u46, u47, u48, u49, u50, u51, u52, u53, u54, u55, u56, u57, u58, u59, u60, u61, u62, u63, u64, u65, u66, u67, u68, u69, u70, u71, u72, u73, u74, u75, u76, u77, u78], []⟩ w0 := by
 refine Fre.region_kept 79 (by kernel_rfl) fitQS rfl (VQS g o n cap c N c1 a b E0) (kpQS g o n cap c N c1 a b E0) (fun i hi => ?_) (fun vs w h1 h2 => ?_)
 case refine_2 =>
  have e9 := @finQS u2 u3 u4 u5 u6 u8 u9 u10 u11 u12 u13 u14 u15 u16 u17 u18 u19 u20 u21 u22 u23 u24 u25 u26 u27 u28 u29 u30 u31 u32 u33 u34 u35 u36 u37 u38 u39 u40 u41 u42 u43 u44 u45 u46 u47 u48 u49 u50 u51 u52 u53 u54 u55 u56 u57 u58 u59 u60 u61 u62 u63 u64 u65 u66 u67 u68 u69 u70 u71 u72 u73 u74 u75 u76 u77 u78 g o n cap c N c1 a b E0 vs
  have h9 := hQ vs w (fun j hj => h1 j (by rw [sizeQS]; exact hj)) h2
  rw [<- e9] at h9
  exact h9
 rw [sizeQS] at hi
 have hc : i = 0 \/ i = 1 \/ i = 2 \/ i = 3 \/ i = 4 \/ i = 5 \/ i = 6 := by omega
 rcases hc with rfl | rfl | rfl | rfl | rfl | rfl | rfl
 ·exact stQS_0 g o n cap c N c1 a b E0 _ rfl w0 hn hb hEn hEl hPG
 ·exact stQS_1 g o n cap c N c1 a b E0 _ rfl w0 hn hb hEn hEl hPG
 ·exact stQS_2 g o n cap c N c1 a b E0 _  w0 hn hb hEn hEl hPG
 ·exact stQS_3 g o n cap c N c1 a b E0 _  w0 hn hb hEn hEl hPG
 ·exact stQS_4 g o n cap c N c1 a b E0 _ rfl w0 hn hb hEn hEl hPG
 ·exact stQS_5 g o n cap c N c1 a b E0 _  w0 hn hb hEn hEl hPG
 ·exact stQS_6 g o n cap c N c1 a b E0 _  w0 hn hb hEn hEl hPG
end
/-- what Objects answers -/
def ObjsR (b : List Nat) (c N : Nat) (w' : World) (e : Ending) : Prop := if pageOk b c then ∃ a cc, e = .returned (.tuple #[.slice a N cc, .bool true]) /\ ObsAt w' a (obsK b c N) /\ (∀ q, a = some q -> ∃ A z, w'.heap[q.block]? = some (Obj.cells A 85 z)) else e = .returned (.tuple #[.slice none 0 0, .bool false])
theorem robjs_c (g o n cap : Nat) (b : List Nat) (hb : b.length = 256) (hn : n = 256) (hcap : 256 <= cap) (hcm : cap <= maxLen) (c : Nat) (w : World) (hB : BytesAt w (some ⟨g, o, none⟩) cap b) :
  Calls Tryz.prog 28 #[.slice (some ⟨g, o, none⟩) n cap, .int .i64 (c : Int)] w fun e w' => ObjsR b c (slotsN c) w' e /\ Below w.heap.size w w' := by
 have HB := Lib.hid hB
 have HBL := Lib.hid hb
 have HLT := Lib.hid hB.1
 have HN := Lib.hid hn
 have HCAP := Lib.hid hcap
 have HCM := Lib.hid hcm
 have dn1 : (n : Int) = 256 := by omega
 have dn2 : ((n : Int) == 256) = true := by rw [dn1]; rfl
 have HSZ := Lib.hid (fun w => rsize_c c w)
 have HSL := Lib.hid (fun w => rslots_c c w)
 by_cases h8 : 8 <= c
 ·have hz := sz_big c h8
  rw [hz] at HSZ
  have HF : Hid (pageOk b c = false) := by show _ = _; unfold pageOk; rw [show decide (c < 8) = false by simp; omega]; rfl
  clear hB hb hn hcap h8 hz hcm
  go_enter Tryz.func28, Tryz.ntmps28
  go_wp2_with fail
  refine (HSZ.out w).mono ?_
  rintro e w1 ⟨rfl, rfl⟩
  go_wp2
  go_ret2
  refine ⟨?_, Below.refl _ _⟩
  unfold ObjsR; rw [HF.out, if_neg (by simp)]; rfl
 ·have hc8 : c < 8 := by omega
  have HC8 := Lib.hid hc8
  obtain ⟨s, hs⟩ : ∃ s, s = sz c := ⟨_, rfl⟩
  have hsb := sz_le_all c hc8
  rw [<- hs] at HSZ hsb
  obtain ⟨z, hz⟩ : ∃ z, z = s + 8 := ⟨_, rfl⟩
  have hwd : wdN c = z := by unfold wdN; omega
  have iz : (s : Int) + 8 = (z : Int) := by omega
  have iz2 : (z : Int) - 8 = (s : Int) := by omega
  have wz : IntKind.i64.wrap (z : Int) = (z : Int) := IntWalk.i64_in _ (by omega)
  have ws : IntKind.i64.wrap (s : Int) = (s : Int) := IntWalk.i64_in _ (by omega)
  have s0 : ¬ (s : Int) = 0 := by omega
  have s1 : ((s : Int) == 0) = false := by simp; omega
  obtain ⟨N, hN⟩ : ∃ N, N = slotsN c := ⟨_, rfl⟩
  have hNb := slots_all c hc8
  rw [<- hs, <- hN] at hNb
  have HNB : Hid (N * z <= 256 /\ N <= 16) := ⟨by rw [hz]; exact hNb.1, hNb.2.2⟩
  have HWIN : Hid (∀ k, k < N -> k * z + z <= 256 /\ winL b c k = (b.drop (k * z)).take z /\ (winL b c k).length = z) := fun k hk => by
   have h1 := win_bounds (c := c) (k := k) (by rw [<- hN]; exact hk)
   rw [hwd] at h1
   exact ⟨h1.1, by unfold winL; rw [hwd], by rw [winL_len hb (by rw [<- hN]; exact hk), hwd]⟩
  have HPA : Hid ((∀ k, k < N -> preW (winL b c k) = true) -> decide (padB (encsO (obsK b c N) z) 256 = b) = pageOk b c) := fun h => by
   have := page_agree b c hb hB.1 hc8 (fun k hk => h k (by rw [hN]; exact hk))
   rw [<- hN, hwd] at this
   exact this
  have HPB : Hid (∀ k, k < N -> preW (winL b c k) = false -> pageOk b c = false) := fun k hk h => page_pre b c k hb hB.1 (by rw [<- hN]; exact hk) h
  rw [<- hN] at HSL ⊢
  have HZB : Hid (z = s + 8 /\ s <= 120 /\ 8 <= s) := ⟨hz, hsb.2, hsb.1⟩
  have HPG : Hid (∀ (a : Option Addr) (cc : Nat) (w' : World), ObsAt w' a (obsK b c N) -> Calls Tryz.prog 59 #[.slice a N cc, .int .i64 (c : Int)] w' fun e w'' => ∃ v, e = .returned v /\ w''.ownsRow w'.heap.size 5 1 v 256 (bA (padB (encsO (obsK b c N) z) 256)).toList /\ Below w'.heap.size w' w'') := fun a cc w' h => by
   have := rpage_c a N cc (obsK b c N) (obsK_len b c N) hNb.2.2 c (fun ob hob => by
    obtain ⟨i, hi⟩ := List.getElem?_of_mem hob
    have hiN : i < N := by have := (List.getElem?_eq_some_iff.1 hi).1; rwa [obsK_len] at this
    rw [obsK_get b c N i hiN] at hi
    cases hi
    show serW (winL b c i) < _
    unfold serW
    exact leN_lt8 _ (fun x hx => hB.1 x (List.mem_of_mem_drop (List.mem_of_mem_take (List.mem_of_mem_drop (List.mem_of_mem_take hx))))) (by rw [List.length_take]; omega)) (fun ob hob => by
    obtain ⟨i, hi⟩ := List.getElem?_of_mem hob
    have hiN : i < N := by have := (List.getElem?_eq_some_iff.1 hi).1; rwa [obsK_len] at this
    rw [obsK_get b c N i hiN] at hi
    cases hi
    have h9 := (HWIN.out i hiN).2.2
    show (((winL b c i).drop 8).take _).length <= _
    rw [List.length_take, List.length_drop, h9]; omega) w' h
   rw [<- hs, <- hz] at this
   exact this
  clear hB hb hn hcap h8 hcm hc8 hs hsb hz hwd hN hNb
  go_enter Tryz.func28, Tryz.ntmps28
  go_wp2_with fail
  refine (HSZ.out w).mono ?_
  rintro e w1 ⟨rfl, rfl⟩
  go_wp2_with fail
  refine (HSZ.out w).mono ?_
  rintro e w1 ⟨rfl, rfl⟩
  go_wp2
  clear HSZ
  go_loopw [7, 8, 9, 10, 11] (fun vl vi v9 v10 v11 wr => ∃ k : Nat, Hid (k <= N) /\ vi = .int .i64 (k : Int) /\ ∃ a c' xs, vl = .slice a k c' /\ Hid (wr.ownsRow w.heap.size 85 2 (.slice a k c') k xs) /\ Hid (ObsT wr xs (obsK b c k)) /\ Hid (∀ j, j < k -> preW (winL b c j) = true) /\ Hid (Below w.heap.size w wr)) (fun _ vi _ _ _ _ => N - (intOf vi).toNat)
  case atStart => exact ⟨0, Nat.zero_le _, rfl, none, 0, [], rfl, World.ownsRow_nil _ _ _ _, ObsT.nil _, fun j h => by omega, Below.refl _ _⟩
  case round =>
   obtain ⟨k, hk, rfl, a, c', xs, rfl, hown, hobs, hpre, hbel⟩ := hrel
   by_cases hlt : k < N
   ·have dl : (k : Int) < (N : Int) := by omega
    have hd : decide ((k : Int) < (N : Int)) = true := by simp; omega
    have ek : IntKind.i64.wrap ((k : Int) + 1) = (k : Int) + 1 := by have := HNB.out; exact IntWalk.i64_in _ (by omega)
    obtain ⟨hw1, hw2, hw3⟩ := HWIN.out k hlt
    obtain ⟨p, hp⟩ : ∃ p, p = k * z := ⟨_, rfl⟩
    obtain ⟨pe, hpe⟩ : ∃ pe, pe = p + z := ⟨_, rfl⟩
    rw [<- hp] at hw1 hw2
    have i3 : (k : Int) * (z : Int) = (p : Int) := by rw [hp]; simp
    have i4 : (p : Int) + (z : Int) = (pe : Int) := by omega
    have wp1 : IntKind.i64.wrap (p : Int) = (p : Int) := IntWalk.i64_in _ (by omega)
    have wp2 : IntKind.i64.wrap (pe : Int) = (pe : Int) := IntWalk.i64_in _ (by omega)
    obtain ⟨so, hso⟩ : ∃ so, so = subO o cap p := ⟨_, rfl⟩
    obtain ⟨sc, hsc⟩ : ∃ sc, sc = cap - p := ⟨_, rfl⟩
    have hslA : ∀ w : World, (Instr.sliceAt 47 (.slice (some ⟨g, o, none⟩) n cap) (some (.int .i64 (p : Int))) (some (.int .i64 (pe : Int))) none).run Tryz.prog w = .ok (.slice (some ⟨g, so, none⟩) z sc) w := fun w => by
     have h := run_sub g o n cap p pe (by omega) (by have := HCAP.out; omega) w
     rw [show pe - p = z by omega, <- hso, <- hsc] at h; exact h
    have hslB : ∀ w : World, (Instr.sliceAt 47 (.slice (some ⟨g, o, none⟩) 256 cap) (some (.int .i64 (p : Int))) (some (.int .i64 (pe : Int))) none).run Tryz.prog w = .ok (.slice (some ⟨g, so, none⟩) z sc) w := fun w => by
     have h := run_sub g o 256 cap p pe (by omega) (by have := HCAP.out; omega) w
     rw [show pe - p = z by omega, <- hso, <- hsc] at h; exact h
    have hscz : z <= sc := by have := HCAP.out; omega
    have hsl2 : ∀ w : World, (Instr.sliceAt 47 (.slice (some ⟨g, so, none⟩) z sc) none (some (.int .i64 2)) none).run Tryz.prog w = .ok (.slice (some ⟨g, so, none⟩) 2 sc) w := fun w => run_subBhR g so z sc 2 (by have := HZB.out; omega) w
    have hsl6 : ∀ w : World, (Instr.sliceAt 47 (.slice (some ⟨g, so, none⟩) z sc) (some (.int .i64 2)) (some (.int .i64 8)) none).run Tryz.prog w = .ok (.slice (some ⟨g, subO so sc 2, none⟩) 6 (sc - 2)) w := fun w => run_sub g so z sc 2 8 (by omega) (by have := HZB.out; omega) w
    have hBwin : BytesAt wr (some ⟨g, so, none⟩) sc (winL b c k) := by
     have h := (HB.out.up hbel.out (Nat.le_refl _)).sub (lo := p) (hi := pe) (by omega) (by have := HBL.out; omega)
     rw [show pe - p = z by omega, <- hw2, <- hso, <- hsc] at h; exact h
    obtain ⟨W, hW⟩ : ∃ W, W = winL b c k := ⟨_, rfl⟩
    rw [<- hW] at hw3 hBwin
    have HWL : Hid (W.length = z) := hw3
    have HBW := Lib.hid hBwin
    have HG2 : Hid (∀ w', Below w.heap.size w w' -> Calls Tryz.prog 58 #[.slice (some ⟨g, so, none⟩) 2 sc] w' fun e w'' => e = .returned (.int .u64 (sizeW W : Int)) /\ w' = w'') := fun w' h => by
     have hh : BytesAt w' (some ⟨g, so, none⟩) sc (W.take 2) := by
      have h9 := (HB.out.up h (Nat.le_refl _)).sub (lo := p) (hi := pe) (by omega) (by have := HBL.out; omega)
      rw [show pe - p = z by omega, <- hw2, <- hso, <- hsc, <- hW] at h9
      have h8 := h9.sub (lo := 0) (hi := 2) (by omega) (by have := HZB.out; omega)
      rw [List.drop_zero, Nat.sub_zero, Nat.sub_zero] at h8
      have h7 : subO so sc 0 = so := by unfold subO; rw [if_neg (by have := HZB.out; omega)]; rfl
      rw [h7] at h8; exact h8
     exact rget_c 2 (by omega) _ _ _ (by rw [List.length_take, hw3]; have := HZB.out; omega) w' hh
    have HG6 : Hid (∀ w', Below w.heap.size w w' -> Calls Tryz.prog 58 #[.slice (some ⟨g, subO so sc 2, none⟩) 6 (sc - 2)] w' fun e w'' => e = .returned (.int .u64 (serW W : Int)) /\ w' = w'') := fun w' h => by
     have hh : BytesAt w' (some ⟨g, subO so sc 2, none⟩) (sc - 2) ((W.drop 2).take 6) := by
      have h9 := (HB.out.up h (Nat.le_refl _)).sub (lo := p) (hi := pe) (by omega) (by have := HBL.out; omega)
      rw [show pe - p = z by omega, <- hw2, <- hso, <- hsc, <- hW] at h9
      exact h9.sub (lo := 2) (hi := 8) (by omega) (by have := HZB.out; omega)
     exact rget_c 6 (by omega) _ _ _ (by rw [List.length_take, List.length_drop, hw3]; have := HZB.out; omega) w' hh
    obtain ⟨nn, hnn⟩ : ∃ nn, nn = sizeW W := ⟨_, rfl⟩
    obtain ⟨sr, hsr⟩ : ∃ sr, sr = serW W := ⟨_, rfl⟩
    rw [<- hnn] at HG2
    rw [<- hsr] at HG6
    have hWlt : ∀ x ∈ W, x < 256 := hBwin.1
    have hn16 : nn < 65536 := by
     rw [hnn]; unfold sizeW
     have h1 := leN_lt (W.take 2) (fun x hx => hWlt x (List.mem_of_mem_take hx))
     have h2 : (2 : Nat) ^ (8 * (W.take 2).length) <= 2 ^ 16 := Nat.pow_le_pow_right (by omega) (by rw [List.length_take]; omega)
     omega
    have wn : IntKind.i64.wrap (nn : Int) = (nn : Int) := IntWalk.i64_in _ (by omega)
    have HNN : Hid (nn = sizeW W /\ nn < 65536) := ⟨hnn, hn16⟩
    have HSR := Lib.hid hsr
    have HPRE : Hid (preW W = (decide (nn <= s) && ((nn == 0) == (sr == 0)))) := by show _ = _; unfold preW; rw [hw3, <- hnn, <- hsr, HZB.out.1, Nat.add_sub_cancel]
    have HW := Lib.hid hW
    have HK := Lib.hid hlt
    have HSC : Hid (z <= sc /\ sc <= maxLen) := ⟨hscz, by have := HCM.out; omega⟩
    have HZ1 : Hid ((wr.alloc (.cells #[.int .u64 (sr : Int), .slice none 0 0] 85)).heap[wr.heap.size]? = some (.cells #[.int .u64 (sr : Int), .slice none 0 0] 85 (0, 0))) := heap_new' _ _
    have HE1 : Hid (Below wr.heap.size wr (wr.alloc (.cells #[.int .u64 (sr : Int), .slice none 0 0] 85))) := below_box wr _
    clear hw1 hw2 hw3 hp hpe hso hsc hscz hBwin hW hnn hsr hWlt hn16 hlt hk
    go_wp2_with fail
    refine (HSL.out wr).mono ?_
    rintro e w1 ⟨rfl, rfl⟩
    go_wp2_with fail
    refine (HG2.out wr hbel.out).mono ?_
    rintro e w1 ⟨rfl, rfl⟩
    go_wp2_with fail
    refine (HG6.out wr hbel.out).mono ?_
    rintro e w1 ⟨rfl, rfl⟩
    clear hslA hslB hsl2 hsl6 HG2 HG6
    by_cases hle : nn <= s
    ·have l1 : ¬ (nn : Int) > (s : Int) := by omega
     have l2 : decide ((nn : Int) > (s : Int)) = false := by simp; omega
     have l3 : decide (s < nn) = false := by simp; omega
     have l4 : ¬ s < nn := by omega
     by_cases hq : ((nn == 0) == (sr == 0)) = true
     ·have HP1 : Hid (preW W = true) := by show _ = _; rw [HPRE.out, hq, Bool.and_true]; simpa using hle
      obtain ⟨n8, hn8⟩ : ∃ n8, n8 = 8 + nn := ⟨_, rfl⟩
      obtain ⟨x8, hx8⟩ : ∃ x8, x8 = subO so sc 8 := ⟨_, rfl⟩
      obtain ⟨c8, hc8⟩ : ∃ c8, c8 = sc - 8 := ⟨_, rfl⟩
      have HRG : Hid (n8 = 8 + nn /\ n8 <= sc /\ nn <= 65535 /\ x8 = subO so sc 8 /\ c8 = sc - 8) := ⟨hn8, by have := HSC.out; have := HZB.out; omega, by have := HNN.out; omega, hx8, hc8⟩
      have HBB : Hid (BytesAt wr (some ⟨g, x8, none⟩) c8 ((W.drop 8).take nn) /\ ((W.drop 8).take nn).length = nn) := by
       have h1 := HBW.out.sub (lo := 8) (hi := n8) (by omega) (by have := HWL.out; have := HZB.out; omega)
       rw [show n8 - 8 = nn by omega, <- hx8, <- hc8] at h1
       exact ⟨h1, by rw [List.length_take, List.length_drop]; have := HWL.out; have := HZB.out; omega⟩
      have HLE := Lib.hid hle
      clear hn8 hx8 hc8 hle
      have hfork : (nn = 0 /\ sr = 0) \/ (nn ≠ 0 /\ sr ≠ 0) := by
       by_cases h1 : nn = 0
       ·left; refine ⟨h1, ?_⟩; subst h1; simpa using hq
       ·right; refine ⟨h1, fun h2 => ?_⟩; subst h2; simp [h1] at hq
      clear hq
      rcases hfork with ⟨h1, h2⟩ | ⟨h1, h2⟩
      ·have q1 : (nn : Int) = 0 := by omega
       have q2 : (sr : Int) = 0 := by omega
       have q3 : ((nn : Int) == 0) = true := by rw [q1]; rfl
       have q4 : ((sr : Int) == 0) = true := by rw [q2]; rfl
       have HQ := Lib.hid (And.intro h1 h2)
       clear q1 q2 q3 q4
       subst h1
       subst h2
       go_wp2
       have HZ1 : Hid ((wr.alloc (.cells #[.int .u64 0, .slice none 0 0] 85)).heap[wr.heap.size]? = some (.cells #[.int .u64 ((0 : Nat) : Int), .slice none 0 0] 85 (0, 0))) := HZ1.out
       have HE1 : Hid (Below wr.heap.size wr (wr.alloc (.cells #[.int .u64 0, .slice none 0 0] 85))) := HE1.out
       generalize (wr.alloc (.cells #[.int .u64 0, .slice none 0 0] 85)) = w2 at *
       refine regionQO g so z sc wr.heap.size 0 n8 x8 c8 0 w2 HRG.out.1 HRG.out.2.1 HRG.out.2.2.1 HRG.out.2.2.2.1 HRG.out.2.2.2.2 HZ1.out ?_
       intro vs w3 hv hkk
       have x0 : vs 0 = .pointer (some ⟨wr.heap.size, 1, none⟩) := hv 0 (by omega)
       have x1 : vs 1 = .slice none 0 0 := hv 1 (by omega)
       have x5 : vs 5 = .slice (some ⟨g, x8, none⟩) 0 c8 := hv 5 (by omega)
       have HE3 : Hid (Below wr.heap.size wr w3) := HE1.out.trans (hkk.mono HE1.out.size)
       have HZ3 := Lib.hid ((hkk.block _ (lt_of_block HZ1.out)).trans HZ1.out)
       have HB3 : Hid (BytesAt w3 (some ⟨g, x8, none⟩) c8 ((W.drop 8).take 0)) := HBB.out.1.up HE3.out (Nat.le_refl _)
       rw [x0, x1, x5]
       clear hv x0 x1 x5 hkk
       refine wpList_append_bytes (v := .slice none 0 0) (base := wr.heap.size + 1) (n := 0) (m := 0) (xs := []) (l := (W.drop 8).take 0) rfl (.tmp 60) (.tmp 64) rfl rfl (World.ownsRow_nil _ _ _ _) rfl HBB.out.2 HB3.out (fun h => by cases h) (by have := HNN.out; omega) (lt_of_block HZ3.out) ?_
       intro v4 w4 ho4 hg4
       rw [List.nil_append, Nat.zero_add] at ho4
       have HZ4 := Lib.hid ((hg4.block _ (lt_of_block HZ3.out) (fun e => by cases e)).trans HZ3.out)
       have HE4 : Hid (Below wr.heap.size wr w4) := HE3.out.grown hg4 HE3.out.size (fun q h => by cases h)
       obtain ⟨a4, k4, hv4⟩ := own_slice ho4
       subst hv4
       have HO4 := Lib.hid ho4
       have f1 := free_at HZ4.out 1
       have e1 := (cells_at HZ4.out 1).trans (show _ = some (Value.slice none 0 0) from rfl)
       have nb := block_at HZ4.out 1 (.slice a4 0 k4)
       have HZ5 : Hid ((w4.setCell ⟨wr.heap.size, 1, none⟩ (.slice a4 0 k4)).heap[wr.heap.size]? = some (.cells #[.int .u64 0, .slice a4 0 k4] 85 (0, 0))) := nb
       have HO5 : Hid ((w4.setCell ⟨wr.heap.size, 1, none⟩ (.slice a4 0 k4)).ownsRow (wr.heap.size + 1) 5 1 (.slice a4 0 k4) 0 (bA ((W.drop 8).take 0)).toList) := ownsRow_setCell_below HO4.out (Nat.lt_succ_self _) _
       have HE5 : Hid (Below wr.heap.size wr (w4.setCell ⟨wr.heap.size, 1, none⟩ (.slice a4 0 k4))) := HE4.out.setCell (Nat.le_refl _) _
       have g0 := (cells_at HZ5.out 0).trans (show _ = some (Value.int .u64 0) from rfl)
       have g1 := (cells_at HZ5.out 1).trans (show _ = some (Value.slice a4 0 k4) from rfl)
       have HSZ5 : Hid ((w4.setCell ⟨wr.heap.size, 1, none⟩ (.slice a4 0 k4)).heap.size = w4.heap.size) := World.size_setCell _ _ _
       obtain ⟨OBB, hOBB⟩ : ∃ OBB, OBB = (W.drop 8).take 0 := ⟨_, rfl⟩
       rw [<- hOBB] at HO5
       have hol : OBB.length = 0 := by rw [hOBB]; exact HBB.out.2
       have hobk : obK b c k = ⟨0, OBB⟩ := by
        unfold obK
        rw [<- HW.out, <- HSR.out, hOBB, <- HNN.out.1]
       obtain ⟨ea, ec, ev, eB, _, elc, ecm, enil, _⟩ := own_bytes (fun x hx => by rw [hOBB] at hx; exact HBW.out.1 x (List.mem_of_mem_drop (List.mem_of_mem_take hx))) HO5.out
       cases ev
       have hbx := below_box (w4.setCell ⟨wr.heap.size, 1, none⟩ (.slice a4 0 k4)) (.cells #[.int .u64 0, .slice a4 0 k4] 85)
       have hslA : SlAt ((w4.setCell ⟨wr.heap.size, 1, none⟩ (.slice a4 0 k4)).alloc (.cells #[.int .u64 0, .slice a4 0 k4] 85)) (.slice a4 OBB.length k4) OBB := ⟨a4, k4, rfl, eB.up hbx (Nat.le_refl _), enil, by rw [hol]; exact elc, ecm⟩
       have HEA : Hid (Below wr.heap.size wr ((w4.setCell ⟨wr.heap.size, 1, none⟩ (.slice a4 0 k4)).alloc (.cells #[.int .u64 0, .slice a4 0 k4] 85))) := HE5.out.trans (hbx.mono HE5.out.size)
       have hTA := (hobs.out.up HEA.out).snoc (o := ⟨0, OBB⟩) hslA (fun p hp => by
        obtain ⟨A9, z9, h9⟩ := own_u8 HO5.out p hp
        exact ⟨A9, z9, (hbx.block _ (lt_of_block h9)).trans h9⟩)
       simp only [hol] at hTA
       rw [<- hobk] at hTA
       have HTA : Hid (ObsT ((w4.setCell ⟨wr.heap.size, 1, none⟩ (.slice a4 0 k4)).alloc (.cells #[.int .u64 0, .slice a4 0 k4] 85)) (xs ++ [.int .u64 0, .slice a4 0 k4]) (obsK b c (k + 1))) := hTA
       have HOA : Hid (((w4.setCell ⟨wr.heap.size, 1, none⟩ (.slice a4 0 k4)).alloc (.cells #[.int .u64 0, .slice a4 0 k4] 85)).ownsRow w.heap.size 85 2 (.slice a k c') k xs) := own_up hown.out HEA.out
       have HGA : Hid (((w4.setCell ⟨wr.heap.size, 1, none⟩ (.slice a4 0 k4)).alloc (.cells #[.int .u64 0, .slice a4 0 k4] 85)).heap[w4.heap.size]? = some (.cells #[.int .u64 0, .slice a4 0 k4] 85 (0, 0))) := by
        show _ = _; rw [<- HSZ5.out]; exact heap_new' _ _
       have HFA : Hid (Below w.heap.size w ((w4.setCell ⟨wr.heap.size, 1, none⟩ (.slice a4 0 k4)).alloc (.cells #[.int .u64 0, .slice a4 0 k4] 85))) := hbel.out.trans (HEA.out.mono hbel.out.size)
       have HPRK : Hid (∀ j, j < k + 1 -> preW (winL b c j) = true) := fun j hj => by
        rcases Nat.lt_or_eq_of_le (Nat.le_of_lt_succ hj) with h9 | h9
        ·exact hpre.out j h9
        ·subst h9; rw [<- HW.out]; exact HP1.out
       clear ho4 hg4 nb HZ4 HO4 HE4 HZ3 HE3 HB3 HZ1 HE1 hOBB hol hobk eB elc ecm enil hbx hslA hTA hown hobs hbel
       go_wp2_with (first
        | (refine wpList_append_ob (v := .slice a k c') (base := w.heap.size) (n := k) (xs := xs) (g := w4.heap.size) rfl (.tmp 67) (.tmp 69) rfl rfl HOA.out rfl HGA.out rfl rfl (by have := HK.out; have := HNB.out; omega) HFA.out.size ?_
           intro v7 w7 ho7 hg7
           have HT7 := Lib.hid (HTA.out.grown HOA.out hg7)
           have HF7 : Hid (Below w.heap.size w w7) := HFA.out.grown hg7 HFA.out.size (fun q h => own_base HOA.out q h)
           have HO7 := Lib.hid ho7
           obtain ⟨a7, c7, hv7⟩ := own_sliceR ho7
           subst hv7
           clear ho7 hg7)
        | fail)
       go_roundw
       case rel => exact ⟨k + 1, by have := HK.out; show _ <= _; omega, by go_num, a7, c7, _, rfl, HO7.out, HT7.out, HPRK.out, HF7.out⟩
       case measure => simp [intOf]; have := HK.out; omega
      ·have q1 : ¬ (nn : Int) = 0 := by omega
       have q2 : ¬ (sr : Int) = 0 := by omega
       have q3 : ((nn : Int) == 0) = false := by simp; omega
       have q4 : ((sr : Int) == 0) = false := by simp; omega
       have q5 : decide ((nn : Int) = 0) = false := by simp; omega
       have q6 : decide ((sr : Int) = 0) = false := by simp; omega
       have HQ := Lib.hid (And.intro h1 h2)
       clear h1 h2
       go_wp2
       generalize (wr.alloc (.cells #[.int .u64 (sr : Int), .slice none 0 0] 85)) = w2 at *
       refine regionQO g so z sc wr.heap.size nn n8 x8 c8 sr w2 HRG.out.1 HRG.out.2.1 HRG.out.2.2.1 HRG.out.2.2.2.1 HRG.out.2.2.2.2 HZ1.out ?_
       intro vs w3 hv hkk
       have x0 : vs 0 = .pointer (some ⟨wr.heap.size, 1, none⟩) := hv 0 (by omega)
       have x1 : vs 1 = .slice none 0 0 := hv 1 (by omega)
       have x5 : vs 5 = .slice (some ⟨g, x8, none⟩) nn c8 := hv 5 (by omega)
       have HE3 : Hid (Below wr.heap.size wr w3) := HE1.out.trans (hkk.mono HE1.out.size)
       have HZ3 := Lib.hid ((hkk.block _ (lt_of_block HZ1.out)).trans HZ1.out)
       have HB3 : Hid (BytesAt w3 (some ⟨g, x8, none⟩) c8 ((W.drop 8).take nn)) := HBB.out.1.up HE3.out (Nat.le_refl _)
       rw [x0, x1, x5]
       clear hv x0 x1 x5 hkk
       refine wpList_append_bytes (v := .slice none 0 0) (base := wr.heap.size + 1) (n := 0) (m := nn) (xs := []) (l := (W.drop 8).take nn) rfl (.tmp 60) (.tmp 64) rfl rfl (World.ownsRow_nil _ _ _ _) rfl HBB.out.2 HB3.out (fun h => by cases h) (by have := HNN.out; omega) (lt_of_block HZ3.out) ?_
       intro v4 w4 ho4 hg4
       rw [List.nil_append, Nat.zero_add] at ho4
       have HZ4 := Lib.hid ((hg4.block _ (lt_of_block HZ3.out) (fun e => by cases e)).trans HZ3.out)
       have HE4 : Hid (Below wr.heap.size wr w4) := HE3.out.grown hg4 HE3.out.size (fun q h => by cases h)
       obtain ⟨a4, k4, hv4⟩ := own_slice ho4
       subst hv4
       have HO4 := Lib.hid ho4
       have f1 := free_at HZ4.out 1
       have e1 := (cells_at HZ4.out 1).trans (show _ = some (Value.slice none 0 0) from rfl)
       have nb := block_at HZ4.out 1 (.slice a4 nn k4)
       have HZ5 : Hid ((w4.setCell ⟨wr.heap.size, 1, none⟩ (.slice a4 nn k4)).heap[wr.heap.size]? = some (.cells #[.int .u64 (sr : Int), .slice a4 nn k4] 85 (0, 0))) := nb
       have HO5 : Hid ((w4.setCell ⟨wr.heap.size, 1, none⟩ (.slice a4 nn k4)).ownsRow (wr.heap.size + 1) 5 1 (.slice a4 nn k4) nn (bA ((W.drop 8).take nn)).toList) := ownsRow_setCell_below HO4.out (Nat.lt_succ_self _) _
       have HE5 : Hid (Below wr.heap.size wr (w4.setCell ⟨wr.heap.size, 1, none⟩ (.slice a4 nn k4))) := HE4.out.setCell (Nat.le_refl _) _
       have g0 := (cells_at HZ5.out 0).trans (show _ = some (Value.int .u64 (sr : Int)) from rfl)
       have g1 := (cells_at HZ5.out 1).trans (show _ = some (Value.slice a4 nn k4) from rfl)
       have HSZ5 : Hid ((w4.setCell ⟨wr.heap.size, 1, none⟩ (.slice a4 nn k4)).heap.size = w4.heap.size) := World.size_setCell _ _ _
       obtain ⟨OBB, hOBB⟩ : ∃ OBB, OBB = (W.drop 8).take nn := ⟨_, rfl⟩
       rw [<- hOBB] at HO5
       have hol : OBB.length = nn := by rw [hOBB]; exact HBB.out.2
       have hobk : obK b c k = ⟨sr, OBB⟩ := by
        unfold obK
        rw [<- HW.out, <- HSR.out, hOBB, <- HNN.out.1]
       obtain ⟨ea, ec, ev, eB, _, elc, ecm, enil, _⟩ := own_bytes (fun x hx => by rw [hOBB] at hx; exact HBW.out.1 x (List.mem_of_mem_drop (List.mem_of_mem_take hx))) HO5.out
       cases ev
       have hbx := below_box (w4.setCell ⟨wr.heap.size, 1, none⟩ (.slice a4 nn k4)) (.cells #[.int .u64 (sr : Int), .slice a4 nn k4] 85)
       have hslA : SlAt ((w4.setCell ⟨wr.heap.size, 1, none⟩ (.slice a4 nn k4)).alloc (.cells #[.int .u64 (sr : Int), .slice a4 nn k4] 85)) (.slice a4 OBB.length k4) OBB := ⟨a4, k4, rfl, eB.up hbx (Nat.le_refl _), enil, by rw [hol]; exact elc, ecm⟩
       have HEA : Hid (Below wr.heap.size wr ((w4.setCell ⟨wr.heap.size, 1, none⟩ (.slice a4 nn k4)).alloc (.cells #[.int .u64 (sr : Int), .slice a4 nn k4] 85))) := HE5.out.trans (hbx.mono HE5.out.size)
       have hTA := (hobs.out.up HEA.out).snoc (o := ⟨sr, OBB⟩) hslA (fun p hp => by
        obtain ⟨A9, z9, h9⟩ := own_u8 HO5.out p hp
        exact ⟨A9, z9, (hbx.block _ (lt_of_block h9)).trans h9⟩)
       simp only [hol] at hTA
       rw [<- hobk] at hTA
       have HTA : Hid (ObsT ((w4.setCell ⟨wr.heap.size, 1, none⟩ (.slice a4 nn k4)).alloc (.cells #[.int .u64 (sr : Int), .slice a4 nn k4] 85)) (xs ++ [.int .u64 (sr : Int), .slice a4 nn k4]) (obsK b c (k + 1))) := hTA
       have HOA : Hid (((w4.setCell ⟨wr.heap.size, 1, none⟩ (.slice a4 nn k4)).alloc (.cells #[.int .u64 (sr : Int), .slice a4 nn k4] 85)).ownsRow w.heap.size 85 2 (.slice a k c') k xs) := own_up hown.out HEA.out
       have HGA : Hid (((w4.setCell ⟨wr.heap.size, 1, none⟩ (.slice a4 nn k4)).alloc (.cells #[.int .u64 (sr : Int), .slice a4 nn k4] 85)).heap[w4.heap.size]? = some (.cells #[.int .u64 (sr : Int), .slice a4 nn k4] 85 (0, 0))) := by
        show _ = _; rw [<- HSZ5.out]; exact heap_new' _ _
       have HFA : Hid (Below w.heap.size w ((w4.setCell ⟨wr.heap.size, 1, none⟩ (.slice a4 nn k4)).alloc (.cells #[.int .u64 (sr : Int), .slice a4 nn k4] 85))) := hbel.out.trans (HEA.out.mono hbel.out.size)
       have HPRK : Hid (∀ j, j < k + 1 -> preW (winL b c j) = true) := fun j hj => by
        rcases Nat.lt_or_eq_of_le (Nat.le_of_lt_succ hj) with h9 | h9
        ·exact hpre.out j h9
        ·subst h9; rw [<- HW.out]; exact HP1.out
       clear ho4 hg4 nb HZ4 HO4 HE4 HZ3 HE3 HB3 HZ1 HE1 hOBB hol hobk eB elc ecm enil hbx hslA hTA hown hobs hbel
       go_wp2_with (first
        | (refine wpList_append_ob (v := .slice a k c') (base := w.heap.size) (n := k) (xs := xs) (g := w4.heap.size) rfl (.tmp 67) (.tmp 69) rfl rfl HOA.out rfl HGA.out rfl rfl (by have := HK.out; have := HNB.out; omega) HFA.out.size ?_
           intro v7 w7 ho7 hg7
           have HT7 := Lib.hid (HTA.out.grown HOA.out hg7)
           have HF7 : Hid (Below w.heap.size w w7) := HFA.out.grown hg7 HFA.out.size (fun q h => own_base HOA.out q h)
           have HO7 := Lib.hid ho7
           obtain ⟨a7, c7, hv7⟩ := own_sliceR ho7
           subst hv7
           clear ho7 hg7)
        | fail)
       go_roundw
       case rel => exact ⟨k + 1, by have := HK.out; show _ <= _; omega, by go_num, a7, c7, _, rfl, HO7.out, HT7.out, HPRK.out, HF7.out⟩
       case measure => simp [intOf]; have := HK.out; omega
     ·have HP0 : Hid (preW W = false) := by show _ = _; rw [HPRE.out, show ((nn == 0) == (sr == 0)) = false by simpa using hq, Bool.and_false]
      have HF : Hid (pageOk b c = false) := HPB.out k HK.out (by rw [<- HW.out]; exact HP0.out)
      have hfork : (nn = 0 /\ sr ≠ 0) \/ (nn ≠ 0 /\ sr = 0) := by
       by_cases h1 : nn = 0
       ·left; refine ⟨h1, fun h2 => ?_⟩; subst h1; subst h2; simp at hq
       ·right; refine ⟨h1, ?_⟩
        by_cases h2 : sr = 0
        ·exact h2
        ·exact absurd (by rw [show (nn == 0) = false by simpa using h1, show (sr == 0) = false by simpa using h2]; rfl) hq
      clear hq
      have HE2 : Hid (Below w.heap.size w (wr.alloc (.cells #[.int .u64 (sr : Int), .slice none 0 0] 85))) := hbel.out.trans (HE1.out.mono hbel.out.size)
      rcases hfork with ⟨h1, h2⟩ | ⟨h1, h2⟩
      ·have q1 : (nn : Int) = 0 := by omega
       have q2 : ¬ (sr : Int) = 0 := by omega
       have q3 : ((nn : Int) == 0) = true := by rw [q1]; rfl
       have q4 : ((sr : Int) == 0) = false := by simp; omega
       clear h1 h2
       go_wp2
       go_ret2
       refine ⟨?_, HE2.out⟩
       unfold ObjsR; rw [HF.out, if_neg (by simp)]; rfl
      ·have q1 : ¬ (nn : Int) = 0 := by omega
       have q2 : (sr : Int) = 0 := by omega
       have q3 : ((nn : Int) == 0) = false := by simp; omega
       have q4 : ((sr : Int) == 0) = true := by rw [q2]; rfl
       rw [h2] at HE2
       clear h1 h2
       go_wp2
       go_ret2
       refine ⟨?_, HE2.out⟩
       unfold ObjsR; rw [HF.out, if_neg (by simp)]; rfl
    ·have l1 : (nn : Int) > (s : Int) := by omega
     have l2 : decide ((nn : Int) > (s : Int)) = true := by simp; omega
     have HP0 : Hid (preW W = false) := by show _ = _; rw [HPRE.out, show decide (nn <= s) = false by simpa using hle]; rfl
     have HF : Hid (pageOk b c = false) := HPB.out k HK.out (by rw [<- HW.out]; exact HP0.out)
     have HE2 : Hid (Below w.heap.size w (wr.alloc (.cells #[.int .u64 (sr : Int), .slice none 0 0] 85))) := hbel.out.trans (HE1.out.mono hbel.out.size)
     clear hle
     go_wp2
     go_ret2
     refine ⟨?_, HE2.out⟩
     unfold ObjsR; rw [HF.out, if_neg (by simp)]; rfl
   ·have hkN : k = N := by have h : k <= N := hk; omega
    have dl : ¬ (k : Int) < (N : Int) := by omega
    have hd : decide ((k : Int) < (N : Int)) = false := by simp; omega
    have HPR := Lib.hid (HPA.out (fun j hj => hpre.out j (by omega)))
    have HOB : Hid (ObsAt wr a (obsK b c N)) := by
     have h := (obs_of_own hown.out hobs.out.1).2
     rw [hkN] at h; exact h
    have HTY : Hid (∀ q, a = some q -> ∃ A z, wr.heap[q.block]? = some (Obj.cells A 85 z)) := own_ob hown.out
    have HKN := Lib.hid hkN
    clear hkN hlt hk hpre
    go_wp2_with fail
    refine (HSL.out wr).mono ?_
    rintro e w1 ⟨rfl, rfl⟩
    obtain ⟨E0, hE0⟩ : ∃ E0, E0 = padB (encsO (obsK b c N) z) 256 := ⟨_, rfl⟩
    have HPG2 := HPG.out a c'
    rw [<- hE0] at HPG2 HPR
    have hEl : ∀ x ∈ E0, x < 256 := by
     rw [hE0]
     refine padB_lt _ _ (encsO_lt _ _ (fun ob hob => ?_))
     obtain ⟨i, hi⟩ := List.getElem?_of_mem hob
     have hiN : i < N := by have := (List.getElem?_eq_some_iff.1 hi).1; rwa [obsK_len] at this
     rw [obsK_get b c N i hiN] at hi
     cases hi
     exact fun x hx => HLT.out x (List.mem_of_mem_drop (List.mem_of_mem_take (List.mem_of_mem_drop (List.mem_of_mem_take hx))))
    have HE0 : Hid (E0.length = 256 /\ ∀ x ∈ E0, x < 256) := ⟨by rw [hE0]; exact padB_len _ _, hEl⟩
    have HPG3 := Lib.hid HPG2
    have HKN2 : k = N := HKN.out
    clear hE0 hEl HPG2 HSL
    subst HKN2
    go_wp2
    refine regionQS g o n cap c k c' a b E0 wr (by rw [HBL.out, HN.out]) (HB.out.up hbel.out (Nat.le_refl _)) HE0.out.1 HE0.out.2 (fun w' h => HPG3.out w' (HOB.out.up h (Nat.le_refl _))) ?_
    intro vs w3 hv hkk
    have x6 : vs 6 = .bool (!decide (E0 = b)) := hv 6 (by omega)
    have HE3 : Hid (Below w.heap.size w w3) := hbel.out.trans (hkk.mono hbel.out.size)
    have HO3 := Lib.hid (HOB.out.up hkk (Nat.le_refl _))
    have HT3 : Hid (∀ q, a = some q -> ∃ A z, w3.heap[q.block]? = some (Obj.cells A 85 z)) := fun q hq => by
     obtain ⟨A9, z9, h9⟩ := HTY.out q hq
     exact ⟨A9, z9, (hkk.block _ (lt_of_block h9)).trans h9⟩
    rw [x6]
    clear hv x6 hkk hobs hown hbel
    obtain ⟨y, hy⟩ : ∃ y, y = decide (E0 = b) := ⟨_, rfl⟩
    have HY : Hid (pageOk b c = y) := by show _ = _; rw [hy]; exact HPR.out.symm
    rw [<- hy]
    clear hy
    cases y with
    | true =>
     go_wp2
     go_ret2
     refine ⟨?_, HE3.out⟩
     unfold ObjsR; rw [HY.out, if_pos rfl]
     exact ⟨_, _, rfl, HO3.out, HT3.out⟩
    | false =>
     go_wp2
     go_ret2
     refine ⟨?_, HE3.out⟩
     unfold ObjsR; rw [HY.out, if_neg (by simp)]; rfl
end Go.Proofs.YtpbmjfjnmcpieaaGreat
