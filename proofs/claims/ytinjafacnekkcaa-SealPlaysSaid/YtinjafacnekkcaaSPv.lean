/- Texts SpU, SpE, put together by pack.py. -/
import Derived.Test.YtinjafacnekkcaaSPu
import Derived.Test.YtinjafacnekkcaaSPl
import Derived.Test.YtinjafacnekkcaaSPt
set_option linter.unusedVariables false
set_option linter.unusedSimpArgs false
namespace Go.Proofs.Ytinjafacnekkcaa
open Go Go.RowKit GfM Go.Sort
theorem sortWorld_below {w : World} {blk n B : Nat} {d : Array (Nat × Nat)} {os : Array Obj} (hB : B ≤ blk) (hb : blk < w.heap.size) : Below B w (sortWorldK encN 2 w blk 0 n d os) := by
  refine ⟨rfl, rfl, rfl, ?_, fun k hk => ?_⟩
  · simp [sortWorldK, grow, putRowK, putRow, mapBlock, Sort.ahead]
  · have hk2 : k < w.heap.size := by omega
    simp only [sortWorldK, grow, putRowK, putRow, mapBlock, Sort.ahead]
    rw [Array.getElem?_append_left (by simpa using hk2), Array.getElem?_modify, if_neg (by omega)]
theorem holds_of_row {w : World} {g : Nat} {cur : Array Value} {t : TypeId} {L : List (Nat × Nat)} (h : w.heap[g]? = some (.cells cur t (0, 0))) (hc : cur.toList.take (L.length * 2) = cellsK encN L) : HoldsK encN 2 w g 0 L.toArray := by
  intro j hj
  rw [size_flatK] at hj
  have hj' : j < L.length * 2 := by simpa using hj
  rw [get_flatK _ _ _ _ hj]
  have hdiv : j / 2 < L.length := by omega
  have hcell : w.cell? ⟨g, 0 + j, none⟩ = some (encN L.toArray[j / 2]!)[j % 2]! := by
    rw [Nat.zero_add, cells_at h j, ← Array.getElem?_toList]
    have e1 : cur.toList[j]? = (cellsK encN L)[j]? := by rw [← hc, List.getElem?_take, if_pos hj']
    have e2 := cellsK_get (enc := encN) (k := 2) (fun _ => rfl) L (j / 2) (j % 2) L[j / 2] (List.getElem?_eq_getElem hdiv) (Nat.mod_lt _ (by decide))
    have e3 : j / 2 * 2 + j % 2 = j := by omega
    rw [e3] at e2
    have hm : j % 2 < (encN L[j / 2]).length := Nat.mod_lt _ (by decide)
    rw [e1, e2, List.getElem?_eq_getElem hm]
    have e4 : L.toArray[j / 2]! = L[j / 2] := by simp [hdiv]
    rw [e4, getElem!_pos (encN L[j / 2]) (j % 2) hm]
  refine ⟨hcell, ?_⟩
  simp [World.frozen?, h]
theorem row_of_holds {w : World} {g : Nat} {d : Array (Nat × Nat)} (hg : g < w.heap.size) (h : HoldsK encN 2 w g 0 d) : RowK encN 2 w (some ⟨g, 0, none⟩) d.toList := by
  intro i x hx
  have hi : i < d.size := by have := (List.getElem?_eq_some_iff.1 hx).1; simpa using this
  refine ⟨g, 0, rfl, hg, fun j u hu => ?_⟩
  have hj : j < 2 := (List.getElem?_eq_some_iff.1 hu).1
  have h1 := (h.cell (i := i) (c := j) hi hj).1
  have e4 : d[i]! = x := by
    rw [Array.getElem?_toList] at hx
    rw [getElem!_pos d i hi]
    exact Option.some.inj ((Array.getElem?_eq_getElem hi).symm.trans hx)
  have hm : j < (encN x).length := hj
  rw [e4, getElem!_pos (encN x) j hm] at h1
  rw [← Nat.add_assoc, h1]
  rw [List.getElem?_eq_getElem hm] at hu
  exact hu
/-- in order -/
def SortedN (l : List (Nat × Nat)) : Prop := l.Pairwise (fun x y => ltP y x = false)
theorem sorted_list {d : Array (Nat × Nat)} (h : SortedIn (ltOf cfN) 0 d.size d) : SortedN d.toList := by
  unfold SortedN
  rw [List.pairwise_iff_getElem]
  intro i j hi hj hij
  have hi' : i < d.size := by simpa using hi
  have hj' : j < d.size := by simpa using hj
  have := h i j (Nat.zero_le _) hij hj'
  rw [getElem!_pos d i hi', getElem!_pos d j hj'] at this
  simpa [ltP] using this
set_option maxRecDepth 100000 in
theorem keysF_c (m : Nat) (w : World) : Calls Try.prog 22 #[.map (some m)] w fun e w' => e = .returned (.func (.func 38) #[] #[.pointer (some ⟨w.heap.size, 0, none⟩)]) ∧ w' = w.alloc (.cells #[.map (some m)] 71) := by
  go_enter Try.func22, Try.ntmps22
  go_wp2
  go_ret
  exact ⟨rfl, rfl⟩
def NonRow (B : Nat) (w' : World) (v : Value) (ss : List (Nat × Nat)) : Prop := w'.ownsRow B 42 2 v ss.length (cellsK encN ss)
set_option maxRecDepth 100000 in
theorem collectN_c (Bm m : Nat) (M : List ((Nat × Nat) × List Nat)) (hM12 : M.length ≤ 1000) (w : World) (hBm : Bm < w.heap.size) (hm : w.cell? ⟨Bm, 0, none⟩ = some (.map (some m))) (hM : MapIs w m M) :
    Calls Try.prog 36 #[.func (.func 38) #[] #[.pointer (some ⟨Bm, 0, none⟩)]] w fun e w' => ∃ (v : Value) (ss : List (Nat × Nat)), e = .returned v ∧ ss.Perm (M.map (·.1)) ∧ NonRow w.heap.size w' v ss ∧ Go.RowKit.Below w.heap.size w w' := by
  have eg : ∀ args w, (callFunc 38 args).run Try.prog w = .ok (.enter 38 args) w := enters_of Try.func38 (by kernel_rfl) rfl
  have hc := callsIn_wide.1 (appendSeqN_in 6 (by decide) _ #[.pointer (some ⟨Bm, 0, none⟩)] eg _ M.length (by omega) w (keysN_gives 5 (by decide) Bm m M w hBm hm hM))
  have HC := Lib.hid hc
  clear hc eg hM hm
  go_enter Try.func36, Try.ntmps36
  go_wp2_with fail
  refine HC.out.mono ?_
  rintro e w' ⟨v, ss, rfl, h1, h2, h3, h4⟩
  have H := Lib.hid (And.intro h1 (And.intro h2 h4))
  clear h1 h2 h3 h4 HC
  go_wp2
  go_ret
  exact ⟨v, ss, rfl, H.out.1, H.out.2.1, H.out.2.2⟩
theorem own_shape {w : World} {base : Nat} {T : TypeId} {k n : Nat} {v : Value} {xs : List Value} (h : w.ownsRow base T k v n xs) : (v = .slice none 0 0 ∧ n = 0) ∨ ∃ g cap cur, v = .slice (some ⟨g, 0, none⟩) n cap ∧ base ≤ g ∧ w.heap[g]? = some (.cells cur T (0, 0)) ∧ n ≤ cap ∧ cur.toList.take (n * k) = xs := by
  rcases h.2 with ⟨h1, h2⟩ | ⟨g, cap, cur, h1, h2, h3, h4, h5, h6, h7⟩
  · exact .inl ⟨h1, h2⟩
  · exact .inr ⟨g, cap, cur, h1, h2, h3, h4, h7⟩
set_option maxRecDepth 100000 in
theorem ins0_c (cap : Nat) (p : Option Addr) (fv : Value) (w : World) : Calls Try.prog 62 #[.slice p 0 cap, .int .i64 0, .int .i64 0, fv] w fun e w' => e = .returned (.tuple #[]) ∧ w' = w := by
  go_enter Try.func62, Try.ntmps62
  go_wp2
  refine wp_loop_rounds 1 ?_
  rw [rounds_succ]
  go_wp2
  go_end0
  exact ⟨rfl, rfl⟩
set_option maxRecDepth 100000 in
theorem pdq0_c (cap : Nat) (p : Option Addr) (lim : Int) (fv : Value) (w : World) : Calls Try.prog 53 #[.slice p 0 cap, .int .i64 0, .int .i64 0, .int .i64 lim, fv] w fun e w' => e = .returned (.tuple #[]) ∧ w' = w := by
  go_enter Try.func53, Try.ntmps53
  go_wp2
  refine wp_loop_rounds 1 ?_
  rw [rounds_succ]
  go_wp2_with (first | (refine (ins0_c _ _ _ _).mono ?_; rintro e w' ⟨rfl, rfl⟩) | fail)
  (try simp only [Exit.inBlock, Exit.then]); refine bodyPost_ret (results_none rfl _ _ _) rfl ?_
  exact ⟨rfl, rfl⟩
set_option maxRecDepth 100000 in
/-- slices.SortFunc of no nonces -/
theorem sort0_c (w : World) : Calls Try.prog 37 #[.slice none 0 0, .func (.func 23) #[] #[]] w fun e w' => e = .returned (.tuple #[]) ∧ w' = w := by
  have hl := fun W => lenN 0 W (by omega)
  go_enter Try.func37, Try.ntmps37
  go_wp2_with (first | (refine (hl _).mono ?_; rintro e w' ⟨⟨l, rfl⟩, rfl⟩) | (refine (pdq0_c _ _ _ _ _).mono ?_; rintro e w' ⟨rfl, rfl⟩) | fail)
  go_end0
  exact ⟨rfl, rfl⟩
/-- what Used and SortedFunc hand back -/
def UsedRes (w' : World) (e : Ending) (K : List (Nat × Nat)) : Prop := ∃ a cap ss, e = .returned (.slice a ss.length cap) ∧ ss.length ≤ cap ∧ ss.Perm K ∧ SortedN ss ∧ RowK encN 2 w' a ss ∧ (∀ p, a = some p → p.spot = none) ∧ (a = none → ss = [])
set_option maxRecDepth 100000 in
theorem sorted_c (Bm m : Nat) (M : List ((Nat × Nat) × List Nat)) (hM12 : M.length ≤ 12) (w : World) (hBm : Bm < w.heap.size) (hm : w.cell? ⟨Bm, 0, none⟩ = some (.map (some m))) (hM : MapIs w m M) :
    Calls Try.prog 21 #[.func (.func 38) #[] #[.pointer (some ⟨Bm, 0, none⟩)], .func (.func 23) #[] #[]] w fun e w' => UsedRes w' e (M.map (·.1)) ∧ Go.RowKit.Below w.heap.size w w' := by
  have HC := Lib.hid (collectN_c Bm m M (by omega) w hBm hm hM)
  clear hm hM hBm
  go_enter Try.func21, Try.ntmps21
  go_wp2_with fail
  refine HC.out.mono ?_
  rintro e w1 ⟨v, ss, rfl, hp, hown, hb⟩
  clear HC
  have hlen : ss.length = M.length := by rw [hp.length_eq]; simp
  rcases own_shape hown with ⟨rfl, h0⟩ | ⟨g, cap, cur, rfl, hg, hblk, hcap, hcur⟩
  · have hs : ss = [] := List.length_eq_zero_iff.1 h0
    have HH := Lib.hid (And.intro hp hb)
    subst hs
    clear hp hb hown
    go_wp2_with (first | (refine (sort0_c _).mono ?_; rintro e w' ⟨rfl, rfl⟩) | fail)
    go_ret
    exact ⟨⟨none, 0, [], rfl, Nat.le_refl _, HH.out.1, List.Pairwise.nil, RowK.nil _ _, (fun p h => by cases h), fun _ => rfl⟩, HH.out.2⟩
  · have hs := sort_c g cap ss.toArray w1 (holds_of_row hblk hcur) (lt_of_block hblk) (by simp; omega)
    have HS : Hid (Calls Try.prog 37 #[.slice (some ⟨g, 0, none⟩) ss.length cap, .func (.func 23) #[] #[]] w1 fun e w' => e = .returned (.tuple #[]) ∧ ∃ d' n os, PermIn 0 ss.toArray.size ss.toArray d' ∧ SortedIn (ltOf cfN) 0 ss.toArray.size d' ∧ w' = sortWorldK encN 2 w1 g 0 n d' os) := by
      have e : ss.toArray.size = ss.length := by simp
      rw [e] at hs
      rw [e]
      exact hs
    have HH := Lib.hid (And.intro hp hb)
    have HG := Lib.hid (And.intro hg (And.intro hblk (And.intro hcap hcur)))
    have HLN := Lib.hid hlen
    clear hp hb hown hs hg hblk hcap hcur hlen
    go_wp2_with fail
    refine HS.out.mono ?_
    rintro e w2 ⟨rfl, d', n, os, hP, hSo, hw2⟩
    have h1 := hP.1
    have hsz : d'.toList.length = ss.length := by simpa using h1
    have hperm : d'.toList.Perm ss := by
      have := hP.2.2
      have e1 : (d'.extract 0 ss.toArray.size) = d' := by rw [← h1]; simp
      rw [e1] at this
      simpa using this
    have hsorted : SortedN d'.toList := sorted_list (by rw [h1]; exact hSo)
    have hgl := lt_of_block HG.out.2.1
    have hrow : RowK encN 2 w2 (some ⟨g, 0, none⟩) d'.toList := by
      refine row_of_holds ?_ ?_
      · rw [hw2]; exact Nat.lt_of_lt_of_le hgl (sortWorld_below (Nat.le_refl _) hgl).size
      · rw [hw2]; exact holdsK_sortWorldK_c encN 2 w1 g 0 ss.toArray d' n os (holds_of_row HG.out.2.1 HG.out.2.2.2) hgl h1
    have hb2 : Go.RowKit.Below w.heap.size w w2 := HH.out.2.trans (by rw [hw2]; exact sortWorld_below HG.out.1 hgl)
    have HE := Lib.hid (And.intro hsz (And.intro hperm (And.intro hsorted (And.intro hrow hb2))))
    clear h1 hsz hperm hsorted hrow hb2 hw2 hP hSo HS hgl
    go_wp2
    go_ret
    obtain ⟨e1, e2, e3, e4, e5⟩ := HE.out
    exact ⟨⟨_, cap, d'.toList, by rw [e1]; rfl, by rw [e1]; exact HG.out.2.2.1, e2.trans HH.out.1, e3, e4, (by rintro _ ⟨⟩; rfl), fun h => by cases h⟩, e5⟩
set_option maxRecDepth 100000 in
theorem used_c {B s m : Nat} {key : List Nat} {M : MapM} {T : Option (Nat × Nat)} (hM12 : M.length ≤ 12) (w : World) (hS : Slr w B s m key M T) :
    Calls Try.prog 7 #[.pointer (some ⟨s, 0, none⟩)] w fun e w' => UsedRes w' e (M.map (·.1)) ∧ Go.RowKit.Below w.heap.size w w' := by
  obtain ⟨cc, tv, hblk, _⟩ := hS.cell
  have c1 : w.cell? ⟨s, 1, none⟩ = some (.map (some m)) := (cells_at hblk 1).trans rfl
  have hb := (Go.RowKit.Below.refl w.heap.size w).alloc (Nat.le_refl _) (.cells #[.map (some m)] 71)
  have hc := sorted_c w.heap.size m M hM12 (w.alloc (.cells #[.map (some m)] 71)) (by simp) ((cells_at (heap_new' _ _) 0).trans rfl) (hS.map.up hb (Nat.le_refl _))
  have HC := Lib.hid hc
  have HB := Lib.hid hb
  clear hS hblk hc hb
  go_enter Try.func7, Try.ntmps7
  go_wp2_with (first | (refine (keysF_c _ _).mono ?_; rintro e w' ⟨rfl, rfl⟩) | fail)
  refine HC.out.mono ?_
  rintro e w2 ⟨⟨a, cap, ss, rfl, h⟩, hb2⟩
  have H := Lib.hid h
  have HB2 : Hid (Go.RowKit.Below w.heap.size w w2) := HB.out.trans (hb2.mono HB.out.size)
  clear h hb2
  go_wp2
  go_ret
  exact ⟨⟨a, cap, ss, rfl, H.out⟩, HB2.out⟩
end Go.Proofs.Ytinjafacnekkcaa
namespace Go.Proofs.Ytinjafacnekkcaa
open Go Go.RowKit GfM
theorem ltB_iff (x y : Nat × Nat) : ltB x y = true ↔ x.1 < y.1 ∨ x.1 = y.1 ∧ x.2 < y.2 := by
  unfold ltB; simp
theorem ltB_not (x y : Nat × Nat) : ltB x y = false ↔ ¬ (x.1 < y.1 ∨ x.1 = y.1 ∧ x.2 < y.2) := by
  rw [← ltB_iff, Bool.not_eq_true]
theorem ltB_tri {x y : Nat × Nat} (h : ltB x y = false) (hne : x ≠ y) : ltB y x = true := by
  have h1 := (ltB_not x y).1 h
  refine (ltB_iff y x).2 ?_
  rcases Nat.lt_trichotomy x.1 y.1 with h2 | h2 | h2
  · omega
  · rcases Nat.lt_trichotomy x.2 y.2 with h3 | h3 | h3
    · omega
    · exact absurd (Prod.ext h2 h3) hne
    · omega
  · omega
theorem ltB_trans {x y z : Nat × Nat} (h1 : ltB x y = true) (h2 : ltB y z = true) : ltB x z = true := by
  have a := (ltB_iff x y).1 h1
  have b := (ltB_iff y z).1 h2
  exact (ltB_iff x z).2 (by omega)
/-- in order -/
def Srt (L : MapM) : Prop := L.Pairwise fun x y => ltB x.1 y.1 = true
structure PlInv (M L : MapM) : Prop where
  perm : L.Perm M
  srt : Srt L
theorem atN_split : ∀ (L : MapM) (n : Nat × Nat), Srt L → (∀ x ∈ L.take (atN L n), ltB x.1 n = true) ∧ ∀ x ∈ L.drop (atN L n), ltB x.1 n = false
  | [], n, _ => by simp
  | x :: xs, n, h => by
    have hx := (List.pairwise_cons.1 h).1
    have hxs := (List.pairwise_cons.1 h).2
    by_cases hl : ltB x.1 n = true
    · have e : atN (x :: xs) n = atN xs n + 1 := by unfold atN; rw [List.filter_cons, if_pos hl, List.length_cons]
      obtain ⟨i1, i2⟩ := atN_split xs n hxs
      rw [e, List.take_succ_cons, List.drop_succ_cons]
      refine ⟨fun y hy => ?_, i2⟩
      rcases List.mem_cons.1 hy with rfl | hy
      · exact hl
      · exact i1 y hy
    · have hlf : ltB x.1 n = false := by simpa using hl
      have hno : ∀ y ∈ x :: xs, ltB y.1 n = false := by
        intro y hy
        rcases List.mem_cons.1 hy with rfl | hy
        · exact hlf
        · cases hc : ltB y.1 n
          · rfl
          · rw [ltB_trans (hx y hy) hc] at hlf; cases hlf
      have e : atN (x :: xs) n = 0 := by
        unfold atN
        rw [List.length_eq_zero_iff, List.filter_eq_nil_iff]
        intro y hy
        rw [hno y hy]; decide
      rw [e, List.take_zero, List.drop_zero]
      exact ⟨by simp, hno⟩
theorem srt_ins {L : MapM} {n : Nat × Nat} {p : List Nat} (h : Srt L) (hn : ∀ x ∈ L, x.1 ≠ n) : Srt (L.take (atN L n) ++ (n, p) :: L.drop (atN L n)) := by
  obtain ⟨h1, h2⟩ := atN_split L n h
  have hs : Srt (L.take (atN L n) ++ L.drop (atN L n)) := by rw [List.take_append_drop]; exact h
  unfold Srt at hs ⊢
  rw [List.pairwise_append] at hs ⊢
  refine ⟨hs.1, List.pairwise_cons.2 ⟨fun y hy => ?_, hs.2.1⟩, fun x hx y hy => ?_⟩
  · exact ltB_tri (h2 y hy) (hn y (List.mem_of_mem_drop hy))
  · rcases List.mem_cons.1 hy with rfl | hy
    · exact h1 x hx
    · exact hs.2.2 x hx y hy
theorem hasN_iff (L : MapM) (n : Nat × Nat) : hasN L n = true ↔ ∃ x ∈ L, x.1 = n := by
  unfold hasN; rw [List.any_eq_true]
  constructor
  · rintro ⟨x, hx, h⟩; exact ⟨x, hx, by simpa using h⟩
  · rintro ⟨x, hx, h⟩; exact ⟨x, hx, by simpa using h⟩
theorem rT_some (n : Nat × Nat) (p : List Nat) (t : Nat × Nat) : ∀ L : MapM, rT L n p (some t) = some t
  | [] => rfl
  | x :: xs => by
    show rT xs n p (rT1 n p (some t) x) = _
    have : rT1 n p (some t) x = some t := by unfold rT1; rw [if_neg (by simp)]
    rw [this]; exact rT_some n p t xs
theorem rT_none (n : Nat × Nat) (p : List Nat) : ∀ L : MapM, (∀ x ∈ L, x.1 = n → x.2 = p) → ∀ T, rT L n p T = T
  | [], _, T => rfl
  | x :: xs, h, T => by
    show rT xs n p (rT1 n p T x) = _
    have : rT1 n p T x = T := by unfold rT1; rw [if_neg (fun hc => hc.2.1 (h x List.mem_cons_self hc.1))]
    rw [this]; exact rT_none n p xs (fun y hy => h y (List.mem_cons_of_mem _ hy)) T
theorem rT_hit (n : Nat × Nat) (p : List Nat) : ∀ L : MapM, (∃ x ∈ L, x.1 = n ∧ x.2 ≠ p) → ∀ T, rT L n p T = T.or (some n)
  | [], h, T => by obtain ⟨x, hx, _⟩ := h; cases hx
  | x :: xs, h, T => by
    show rT xs n p (rT1 n p T x) = _
    by_cases hx : x.1 = n ∧ x.2 ≠ p
    · cases T with
      | some t =>
        have : rT1 n p (some t) x = some t := by unfold rT1; rw [if_neg (by simp)]
        rw [this, rT_some]; rfl
      | none =>
        have : rT1 n p none x = some n := by unfold rT1; rw [if_pos ⟨hx.1, hx.2, rfl⟩]
        rw [this, rT_some]; rfl
    · have : rT1 n p T x = T := by unfold rT1; rw [if_neg (fun hc => hx ⟨hc.1, hc.2.1⟩)]
      rw [this]
      refine rT_hit n p xs ?_ T
      obtain ⟨y, hy, h1⟩ := h
      rcases List.mem_cons.1 hy with rfl | hy
      · exact absurd h1 hx
      · exact ⟨y, hy, h1⟩
/-- a call of Seal leaves both alike -/
theorem step_inv {M L M' : MapM} {T T' : Option (Nat × Nat)} {n : Nat × Nat} {p : List Nat} (h : PlInv M L) (hd : M.Pairwise fun x y => x.1 ≠ y.1) (hs : SStp M T n p M' T') : PlInv M' (insL L n p) ∧ rT L n p T = T' := by
  rcases hs with ⟨h1, rfl, rfl⟩ | ⟨⟨x, hx, hxn, hor⟩, rfl⟩
  · have hno : ∀ x ∈ L, x.1 ≠ n := fun x hx => h1 x (h.perm.mem_iff.1 hx)
    have hh : hasN L n = false := by
      cases hc : hasN L n
      · rfl
      · obtain ⟨x, hx, e⟩ := (hasN_iff L n).1 hc; exact absurd e (hno x hx)
    unfold insL
    rw [if_neg (by rw [hh]; decide)]
    refine ⟨⟨?_, srt_ins h.srt hno⟩, rT_none n p L (fun x hx e => absurd e (hno x hx)) T'⟩
    refine List.perm_middle.trans ?_
    rw [List.take_append_drop]
    exact ((h.perm.cons (n, p)).trans (List.perm_append_singleton _ _).symm)
  · have hxL : x ∈ L := h.perm.mem_iff.2 hx
    have hh : hasN L n = true := (hasN_iff L n).2 ⟨x, hxL, hxn⟩
    unfold insL
    rw [if_pos hh]
    refine ⟨h, ?_⟩
    have huni : ∀ y ∈ L, y.1 = n → y = x := by
      intro y hy hyn
      have hyM : y ∈ M' := h.perm.mem_iff.1 hy
      by_cases e : y = x
      · exact e
      · exfalso
        obtain ⟨i, hi, hiy⟩ := List.getElem_of_mem hyM
        obtain ⟨j, hj, hjx⟩ := List.getElem_of_mem hx
        have hij : i ≠ j := fun e' => e (by subst e'; rw [← hiy, ← hjx])
        rw [List.pairwise_iff_getElem] at hd
        rcases Nat.lt_or_gt_of_ne hij with hlt | hlt
        · exact hd i j hi hj hlt (by rw [hiy, hjx, hyn, hxn])
        · exact hd j i hj hi hlt (by rw [hiy, hjx, hyn, hxn])
    rcases hor with ⟨hxp, rfl⟩ | ⟨hxp, rfl⟩
    · exact rT_none n p L (fun y hy hyn => by rw [huni y hy hyn]; exact hxp) T'
    · exact rT_hit n p L ⟨x, hxL, hxn, hxp⟩ T
/-- what Used hands back is the reference's list -/
theorem used_eq {M L : MapM} (h : PlInv M L) {ss : List (Nat × Nat)} (hp : ss.Perm (M.map (·.1))) (hs : SortedN ss) : ss = L.map (·.1) := by
  have hp2 : ss.Perm (L.map (·.1)) := hp.trans (h.perm.map _).symm
  have hl : (L.map (·.1)).Pairwise (fun x y => ltP y x = false) := by
    rw [List.pairwise_map]
    refine h.srt.imp fun {x y} hxy => ?_
    have a := (ltB_iff x.1 y.1).1 hxy
    exact (ltP_not y.1 x.1).2 (by omega)
  refine List.Perm.eq_of_pairwise (le := fun x y => ltP y x = false) (fun a b _ _ h1 h2 => ?_) hs hl hp2
  have a1 := (ltP_not b a).1 h1
  have a2 := (ltP_not a b).1 h2
  refine Prod.ext ?_ ?_ <;> omega
theorem insL_len (L : MapM) (n : Nat × Nat) (p : List Nat) : (insL L n p).length ≤ L.length + 1 := by
  unfold insL
  split
  · omega
  · rw [List.length_append, List.length_cons, List.length_take, List.length_drop]; omega
end Go.Proofs.Ytinjafacnekkcaa
