/- Texts RSl, put together by pack.py. -/
import Derived.Test.YtinjafacnekkcaaSPl
import Derived.Test.YtinjafacnekkcaaSPo
import Derived.Test.YtinjafacnekkcaaSPq
import Derived.Test.YtinjafacnekkcaaSPr
import Derived.Test.YtinjafacnekkcaaSPs
set_option linter.unusedVariables false
set_option linter.unusedSimpArgs false
namespace Go.Proofs.Ytinjafacnekkcaa
open Go Go.RowKit GfM
/-- one thing sealed, as it stands in a row -/
structure OneR where
  n : Nat × Nat
  a : Option Addr
  c : Nat
def encO (x : OneR) : List Value := [.int .u64 (x.n.1 : Int), .int .i64 (x.n.2 : Int), .slice x.a 256 x.c]
def oneV (x : OneR) : Value := .agg (encO x).toArray
theorem oneRT : RowTy Try.prog oneV encO 3 40 30 33 :=
  ⟨Try.underlying30, ⟨.agg #[.int .u64 0, .int .i64 0, .slice none 0 0], by kernel_rfl, rfl⟩, fun x => rfl, fun _ => rfl, fun x v hv => by simp [encO] at hv; rcases hv with rfl | rfl | rfl <;> rfl, by decide⟩
/-- the bytes lie where the row says -/
def OnesAt (w : World) (r : Nat) (X : List OneR) (L : MapM) : Prop :=
  X.length = L.length ∧ ∀ (i : Nat) x y, X[i]? = some x → L[i]? = some y → x.n = y.1 ∧ y.2.length = 256 ∧ y.1.1 < 18446744073709551616 ∧ y.1.2 < 65536 ∧ BytesAt w x.a x.c y.2 ∧ ∀ q, x.a = some q → q.block ≠ r
structure RSl (w : World) (r : Nat) (key : List Nat) (L : MapM) (T : Option (Nat × Nat)) (c g nw cp : Nat) (a : Option Addr) (cl : Nat) (X : List OneR) : Prop where
  blk : w.heap[r]? = some (.cells #[.pointer (some ⟨c, 0, none⟩), .slice a L.length cl, .bool T.isSome, .int .u64 ((T.getD (0, 0)).1 : Int), .int .i64 ((T.getD (0, 0)).2 : Int), .slice none 0 0] 35 (0, 0))
  cip : RCip w c g nw cp (roundsK key) (wordsK key)
  cap : L.length ≤ cl
  nil : a = none → cl = 0
  ap : ∀ p, a = some p → p.block ≠ r ∧ p.spot = none
  row : RowK encO 3 w a X
  ones : OnesAt w r X L
def RSlr (w : World) (r : Nat) (key : List Nat) (L : MapM) (T : Option (Nat × Nat)) : Prop := ∃ c g nw cp a cl X, RSl w r key L T c g nw cp a cl X
/-- but for block r nothing that was there is another -/
def BtR (r : Nat) (w w' : World) : Prop := Below r w w' ∧ ∀ k, k < w.heap.size → k ≠ r → w'.heap[k]? = w.heap[k]?
theorem BtR.refl (r : Nat) (w : World) : BtR r w w := ⟨Below.refl _ _, fun _ _ _ => rfl⟩
theorem BtR.trans {r : Nat} {a b c : World} (h : BtR r a b) (k : BtR r b c) : BtR r a c := ⟨h.1.trans k.1, fun i hi hr => (k.2 i (Nat.lt_of_lt_of_le hi h.1.size) hr).trans (h.2 i hi hr)⟩
theorem BtR.below {r : Nat} {w w' : World} (hr : r ≤ w.heap.size) (h : Below w.heap.size w w') : BtR r w w' := ⟨h.mono hr, fun k hk _ => h.block k hk⟩
theorem bytes_btr {w w' : World} {r : Nat} {a : Option Addr} {c : Nat} {l : List Nat} (h : BytesAt w a c l) (hb : BtR r w w') (hr : ∀ q, a = some q → q.block ≠ r) : BytesAt w' a c l := by
  refine ⟨h.1, fun h0 => ?_⟩
  obtain ⟨g, o, h1, h2, h3, h4⟩ := h.2 h0
  subst h1
  have hk := hb.2 g h3 (hr _ rfl)
  exact ⟨g, o, rfl, h2, Nat.lt_of_lt_of_le h3 hb.1.size, fun j hj => by rw [← h4 j hj]; simp [World.cell?, hk]⟩
theorem OnesAt.btr {w w' : World} {r : Nat} {X : List OneR} {L : MapM} (h : OnesAt w r X L) (hb : BtR r w w') : OnesAt w' r X L :=
  ⟨h.1, fun i x y hx hy => by
    obtain ⟨h1, h2, h3, h4, h5, h6⟩ := h.2 i x y hx hy
    exact ⟨h1, h2, h3, h4, bytes_btr h5 hb h6, h6⟩⟩
theorem RCip.ne {w : World} {c g n cp rr : Nat} {W : List Nat} (h : RCip w c g n cp rr W) {r : Nat} {A : Array Value} {z : Nat × Nat} (hr : w.heap[r]? = some (.cells A 35 z)) : c ≠ r ∧ g ≠ r := by
  obtain ⟨⟨B, h1, _⟩, _, _, _, ⟨C, h4, _⟩, _⟩ := h
  constructor
  · rintro rfl; rw [hr] at h1; injection h1 with h1; injection h1 with _ ht _; exact absurd ht (by decide)
  · rintro rfl; rw [hr] at h4; injection h4 with h4; injection h4 with _ ht _; exact absurd ht (by decide)
theorem RCip.keepR {w w' : World} {c g n cap r : Nat} {W : List Nat} (h : RCip w c g n cap r W) (hc : w'.heap[c]? = w.heap[c]?) (hg : w'.heap[g]? = w.heap[g]?) : RCip w' c g n cap r W := by
  obtain ⟨⟨A, h1, hr⟩, h2, h3, h3b, ⟨A', h4, h5⟩, h6⟩ := h
  exact ⟨⟨A, hc.trans h1, hr⟩, h2, h3, h3b, ⟨A', hg.trans h4, h5⟩, h6⟩
theorem rowK_btr {α : Type} {enc : α → List Value} {k : Nat} {w w' : World} {r : Nat} {a : Option Addr} {X : List α} (h : RowK enc k w a X) (hb : BtR r w w') (hr : ∀ p, a = some p → p.block ≠ r) : RowK enc k w' a X := by
  intro i x hx
  obtain ⟨g, o, rfl, hg, hc⟩ := h i x hx
  have hk := hb.2 g hg (hr _ rfl)
  exact ⟨g, o, rfl, Nat.lt_of_lt_of_le hg hb.1.size, fun j u hu => by rw [← hc j u hu]; simp [World.cell?, hk]⟩
/-- another block r, all else as it was -/
theorem RSl.set {w w' : World} {r : Nat} {key : List Nat} {L : MapM} {T T' : Option (Nat × Nat)} {c g nw cp : Nat} {a : Option Addr} {cl : Nat} {X : List OneR} (h : RSl w r key L T c g nw cp a cl X) (hb : BtR r w w')
    (hr : w'.heap[r]? = some (.cells #[.pointer (some ⟨c, 0, none⟩), .slice a L.length cl, .bool T'.isSome, .int .u64 ((T'.getD (0, 0)).1 : Int), .int .i64 ((T'.getD (0, 0)).2 : Int), .slice none 0 0] 35 (0, 0))) : RSl w' r key L T' c g nw cp a cl X := by
  obtain ⟨e1, e2⟩ := h.cip.ne h.blk
  have hl := h.cip.lt
  exact ⟨hr, h.cip.keepR (hb.2 c hl.1 e1) (hb.2 g hl.2 e2), h.cap, h.nil, h.ap, rowK_btr h.row hb (fun p hp => (h.ap p hp).1), h.ones.btr hb⟩
theorem RSl.up {w w' : World} {r : Nat} {key : List Nat} {L : MapM} {T : Option (Nat × Nat)} {c g nw cp : Nat} {a : Option Addr} {cl : Nat} {X : List OneR} (h : RSl w r key L T c g nw cp a cl X) (hb : Below w.heap.size w w') : RSl w' r key L T c g nw cp a cl X :=
  h.set (BtR.below (Nat.le_of_lt (lt_of_block h.blk)) hb) ((hb.block r (lt_of_block h.blk)).trans h.blk)
def ltB (x n : Nat × Nat) : Bool := decide (x.1 < n.1) || (decide (x.1 = n.1) && decide (x.2 < n.2))
/-- how many come ahead -/
def atN (L : MapM) (n : Nat × Nat) : Nat := (L.filter fun x => ltB x.1 n).length
def hasN (L : MapM) (n : Nat × Nat) : Bool := L.any fun x => decide (x.1 = n)
def rT1 (n : Nat × Nat) (p : List Nat) (T : Option (Nat × Nat)) (x : (Nat × Nat) × List Nat) : Option (Nat × Nat) := if x.1 = n ∧ x.2 ≠ p ∧ T = none then some n else T
def rT (L : MapM) (n : Nat × Nat) (p : List Nat) (T : Option (Nat × Nat)) : Option (Nat × Nat) := L.foldl (rT1 n p) T
def insL (L : MapM) (n : Nat × Nat) (p : List Nat) : MapM := if hasN L n = true then L else L.take (atN L n) ++ (n, p) :: L.drop (atN L n)
theorem take_snoc {α : Type} {L : List α} {i : Nat} {x : α} (h : L[i]? = some x) : L.take (i + 1) = L.take i ++ [x] := by
  rw [List.take_add_one, h]; rfl
theorem atN_snoc (L : MapM) (x : (Nat × Nat) × List Nat) (n : Nat × Nat) : atN (L ++ [x]) n = atN L n + if ltB x.1 n then 1 else 0 := by
  unfold atN
  rw [List.filter_append, List.length_append]
  congr 1
  by_cases h : ltB x.1 n = true <;> simp [h]
theorem hasN_snoc (L : MapM) (x : (Nat × Nat) × List Nat) (n : Nat × Nat) : hasN (L ++ [x]) n = (hasN L n || decide (x.1 = n)) := by
  unfold hasN; rw [List.any_append]; simp
theorem rT_snoc (L : MapM) (x : (Nat × Nat) × List Nat) (n : Nat × Nat) (p : List Nat) (T : Option (Nat × Nat)) : rT (L ++ [x]) n p T = rT1 n p (rT L n p T) x := by
  unfold rT; rw [List.foldl_append]; rfl
theorem atN_le (L : MapM) (n : Nat × Nat) : atN L n ≤ L.length := List.length_filter_le _ _
theorem ne_strV (l m : List Nat) (hl : ∀ x ∈ l, x < 256) (hm : ∀ x ∈ m, x < 256) (w : World) : (binOp .neq 9 (strV l) (strV m)).run Try.prog w = .ok (.bool (decide (l ≠ m))) w := by
  have key : (l.map UInt8.ofNat == m.map UInt8.ofNat) = decide (l = m) := by
    by_cases h : l = m
    · subst h; simp
    · have hne : l.map UInt8.ofNat ≠ m.map UInt8.ofNat := fun h' => h (strV_inj hl hm h')
      simp [h, hne]
  unfold strV
  go_simp
  done
theorem wpList_nes {w : World} {ops : Array Oper} {rest : List Oper} {o : Oper} {A : Act} {Q : Exit → Act → World → Prop} (hgd : o.guard = none) (x y : Operand) (t : TypeId) {l m : List Nat} (hl : ∀ x ∈ l, x < 256) (hm : ∀ x ∈ m, x < 256) (ho : o.op = .binOp .neq 9 x y t) (hx : A.eval x = strV l) (hy : A.eval y = strV m)
    (hK : wpList Try.prog ops Q rest (A.put o.dst (.bool (decide (l ≠ m)))) w) : wpList Try.prog ops Q (o :: rest) A w :=
  wpList_plain hgd fun _ hk => by
    unfold Oper.wp execOp
    simp only [ho, hx, hy, Sem.run_bind, ne_strV l m hl hm, Result.andThen_ok]
    exact hk _ _ hK
set_option maxRecDepth 100000 in
theorem rplain_c {r : Nat} {key : List Nat} {L : MapM} {T : Option (Nat × Nat)} (hkl : key.length = 16 ∨ key.length = 32) (e b : Nat) (he : e < 18446744073709551616) (hb : b < 65536) (a : Option Addr) (cap : Nat) (p : List Nat) (hp : p.length = 256) (w : World)
    (hS : RSlr w r key L T) (hB : BytesAt w a cap p) :
    Calls Try.prog 19 #[.pointer (some ⟨r, 0, none⟩), .int .u64 (e : Int), .int .i64 (b : Int), .slice a 256 cap] w fun x w' =>
      ∃ s sc, x = .returned (.slice s 256 sc) ∧ BytesAt w' s sc (xorL p (strL key e b 256)) ∧ Below w.heap.size w w' := by
  obtain ⟨c, g, nw, cp, al, cl, X, hS⟩ := hS
  have c0 : w.cell? ⟨r, 0, none⟩ = some (.pointer (some ⟨c, 0, none⟩)) := (cells_at hS.blk 0).trans rfl
  have HAP := Lib.hid (rapply_c hkl e b he (by omega) a cap p 256 hp (by omega) w hS.cip hB)
  have e1 : IntKind.u32.wrap (b : Int) = (b : Int) := by rw [IntKind.wrap_u32]; omega
  clear hS hB he hb
  go_enter Try.func19, Try.ntmps19
  go_wp2_with fail
  refine HAP.out.mono ?_
  rintro x w' ⟨s, sc, rfl, h1, h2⟩
  have H1 := Lib.hid h1
  have H2 := Lib.hid h2
  clear h1 h2
  go_wp2
  go_ret
  exact ⟨s, sc, rfl, H1.out, H2.out⟩
theorem OnesAt.app {w : World} {r : Nat} {X Y : List OneR} {L M : MapM} (h : OnesAt w r X L) (k : OnesAt w r Y M) : OnesAt w r (X ++ Y) (L ++ M) := by
  refine ⟨by rw [List.length_append, List.length_append, h.1, k.1], fun i x y hx hy => ?_⟩
  rw [List.getElem?_append] at hx hy
  rw [h.1] at hx
  split at hx
  · next hi => rw [if_pos hi] at hy; exact h.2 i x y hx hy
  · next hi => rw [if_neg hi] at hy; exact k.2 _ x y hx hy
theorem OnesAt.take {w : World} {r : Nat} {X : List OneR} {L : MapM} (h : OnesAt w r X L) (n : Nat) : OnesAt w r (X.take n) (L.take n) := by
  refine ⟨by rw [List.length_take, List.length_take, h.1], fun i x y hx hy => ?_⟩
  rw [List.getElem?_take] at hx hy
  split at hx
  · next hi => rw [if_pos hi] at hy; exact h.2 i x y hx hy
  · cases hx
theorem OnesAt.drop {w : World} {r : Nat} {X : List OneR} {L : MapM} (h : OnesAt w r X L) (n : Nat) : OnesAt w r (X.drop n) (L.drop n) := by
  refine ⟨by rw [List.length_drop, List.length_drop, h.1], fun i x y hx hy => ?_⟩
  rw [List.getElem?_drop] at hx hy
  exact h.2 _ x y hx hy
theorem own_upR {w w' : World} {base : Nat} {e : TypeId} {size : Nat} {v : Value} {n : Nat} {xs : List Value} (h : w.ownsRow base e size v n xs) (hb : Below w.heap.size w w') : w'.ownsRow base e size v n xs :=
  h.kept (row := none) ⟨hb.os, hb.tape, hb.output, hb.size, fun k hk _ => hb.block k hk⟩ (by
    cases h : v.ownBlock with
    | none => exact .inl rfl
    | some k => exact .inr (by simp))
theorem subK_nil {k : Nat} {a : Option Addr} {c l : Nat} (h : a = none → c = 0) (hl : l ≤ c) (hn : subK k a c l = none) : c - l = 0 := by
  unfold subK at hn
  split at hn
  · omega
  · cases a with
    | none => have := h rfl; omega
    | some q => cases hn
theorem subK_spot {k : Nat} {a : Option Addr} {c l : Nat} (h : ∀ p, a = some p → p.spot = none) : ∀ q, subK k a c l = some q → q.spot = none := by
  intro q hq
  unfold subK at hq
  split at hq
  · exact h q hq
  · cases a with
    | none => cases hq
    | some q' =>
      have h1 := h q' rfl
      obtain ⟨gq, oq, sq⟩ := q'
      simp only at h1
      subst h1
      rw [Option.map_some, Addr.add_mid] at hq
      cases hq; rfl
theorem own_shapeR {w : World} {base : Nat} {T : TypeId} {k n : Nat} {v : Value} {xs : List Value} (h : w.ownsRow base T k v n xs) (hn : 0 < n) : ∃ g cap cur, v = .slice (some ⟨g, 0, none⟩) n cap ∧ base ≤ g ∧ w.heap[g]? = some (.cells cur T (0, 0)) := by
  rcases h.2 with ⟨h1, h2⟩ | ⟨g, cap, cur, h1, h2, h3, h4, h5, h6, h7⟩
  · omega
  · exact ⟨g, cap, cur, h1, h2, h3⟩
theorem own_otherR {w w' : World} {base : Nat} {T t : TypeId} {k n : Nat} {v : Value} {xs : List Value} (h : w.ownsRow base T k v n xs) (hg : w.grownBy w' v.ownBlock) {j : Nat} {cur : Array Value} (hj : w.heap[j]? = some (.cells cur t (0, 0))) (ht : t ≠ T) : w'.heap[j]? = w.heap[j]? := by
  refine hg.block j (lt_of_block hj) ?_
  rcases h.2 with ⟨rfl, _⟩ | ⟨g, cap, cur', rfl, _, hgb, _⟩
  · simp [Value.ownBlock]
  · intro e'
    have : g = j := by simpa [Value.ownBlock] using e'.symm
    subst this; rw [hgb] at hj; cases hj; exact ht rfl
theorem OnesAt.one {w : World} {r : Nat} {x : OneR} {y : (Nat × Nat) × List Nat} (h : x.n = y.1 ∧ y.2.length = 256 ∧ y.1.1 < 18446744073709551616 ∧ y.1.2 < 65536 ∧ BytesAt w x.a x.c y.2 ∧ ∀ q, x.a = some q → q.block ≠ r) : OnesAt w r [x] [y] := by
  refine ⟨rfl, fun i x' y' hx hy => ?_⟩
  have hi : i = 0 := by have := (List.getElem?_eq_some_iff.1 hx).1; simpa using this
  subst hi
  have e1 : x = x' := by simpa using hx
  have e2 : y = y' := by simpa using hy
  subst e1; subst e2; exact h
theorem own_parts {w : World} {base : Nat} {T : TypeId} {k n : Nat} {v : Value} {xs : List Value} (h : w.ownsRow base T k v n xs) : ∃ a c, v = .slice a n c ∧ n ≤ c ∧ (a = none → c = 0) ∧ ∀ p, a = some p → base ≤ p.block ∧ p.spot = none := by
  rcases h.2 with ⟨h1, h2⟩ | ⟨g, cap, cur, h1, h2, h3, h4, h5, h6, h7⟩
  · exact ⟨none, 0, by rw [h1, h2], by omega, fun _ => rfl, fun p hp => by cases hp⟩
  · exact ⟨_, cap, h1, h4, fun h => by (cases h), fun p hp => by cases hp; exact ⟨h2, rfl⟩⟩
theorem below_grown {w w' : World} {base : Nat} {T : TypeId} {k n : Nat} {v : Value} {xs : List Value} {B : Nat} (hown : w.ownsRow base T k v n xs) (hg : w.grownBy w' v.ownBlock) (hB : B ≤ base) (hw : B ≤ w.heap.size) : Below B w w' :=
  (Below.refl _ _).grown hg hw (fun k e => Nat.le_trans hB (hown.lt k e).1)
theorem btr_set (r : Nat) (w : World) (j : Nat) (v : Value) : BtR r w (w.setCell ⟨r, j, none⟩ v) :=
  ⟨⟨rfl, rfl, rfl, by simp [World.setCell], fun k hk => Below.heap_setCell _ _ _ _ (Nat.ne_of_lt hk)⟩, fun k _ hk => Below.heap_setCell _ _ _ _ hk⟩
set_option maxRecDepth 100000 in
set_option maxHeartbeats 8000000 in
theorem rseal_c {r : Nat} {key : List Nat} {L : MapM} {T : Option (Nat × Nat)} (hkl : key.length = 16 ∨ key.length = 32) (e b : Nat) (he : e < 18446744073709551616) (hb : b < 65536) (pa : Option Addr) (pc : Nat) (p : List Nat) (hp : p.length = 256) (w : World) (hL : L.length ≤ 1000)
    (hS : RSlr w r key L T) (hB : BytesAt w pa pc p) (hpr : ∀ q, pa = some q → q.block ≠ r) :
    Calls Try.prog 20 #[.pointer (some ⟨r, 0, none⟩), .int .u64 (e : Int), .int .i64 (b : Int), .slice pa 256 pc] w fun x w' =>
      ∃ s sc, x = .returned (.slice s 256 sc) ∧ BytesAt w' s sc (xorL p (strL key e b 256)) ∧ RSlr w' r key (insL L (e, b) p) (rT L (e, b) p T) ∧ BtR r w w' := by
  obtain ⟨qa, oa, rfl⟩ : ∃ qa oa, pa = some ⟨qa, oa, none⟩ := by
    obtain ⟨g, o, h, _⟩ := hB.2 (by omega)
    exact ⟨g, o, h⟩
  obtain ⟨c, g, nw, cp, a, cl, X, hS⟩ := hS
  obtain ⟨N, hN⟩ : ∃ N, L.length = N := ⟨_, rfl⟩
  have c1 : w.cell? ⟨r, 1, none⟩ = some (.slice a N cl) := by rw [← hN]; exact (cells_at hS.blk 1).trans rfl
  have HS := Lib.hid hS
  have HB := Lib.hid hB
  have HPR := Lib.hid hpr
  have HP := Lib.hid hp
  have HN := Lib.hid hN
  have HE := Lib.hid (And.intro he hb)
  have HKL := Lib.hid hkl
  have HNL := Lib.hid hL
  clear hS hB hpr hp hN he hb hkl hL
  go_enter Try.func20, Try.ntmps20
  go_wp2
  clear c1
  go_loopw [9, 10, 19] (fun v9 v10 v19 wr => ∃ i, i ≤ N ∧ v19 = .int .i64 (i : Int) ∧ v9 = .int .i64 ((atN (L.take i) (e, b) : Nat) : Int) ∧ v10 = .bool (hasN (L.take i) (e, b)) ∧ Hid (RSl wr r key L (rT (L.take i) (e, b) p T) c g nw cp a cl X) ∧ Hid (BtR r w wr))
    (fun _ _ v19 _ => N - (intOf v19).toNat)
  case atStart => exact ⟨0, Nat.zero_le _, rfl, rfl, rfl, HS.out, BtR.refl _ _⟩
  case round =>
    obtain ⟨i, hi, rfl, rfl, rfl, HRS, HBT⟩ := hrel
    by_cases hlt : i < N
    · have hil : i < L.length := by rw [HN.out]; exact hlt
      obtain ⟨x, hx⟩ : ∃ x, L[i]? = some x := ⟨_, List.getElem?_eq_getElem hil⟩
      obtain ⟨y, hy⟩ : ∃ y, X[i]? = some y := ⟨_, List.getElem?_eq_getElem (by rw [HRS.out.ones.1]; exact hil)⟩
      obtain ⟨hxy, hx256, hxe, hxb, hxB, hxr⟩ := HRS.out.ones.2 i y x hy hx
      obtain ⟨gx, ox, hax, hgx, hcx⟩ := HRS.out.row i y hy
      subst hax
      obtain ⟨⟨ex, bx⟩, px⟩ := x
      obtain ⟨ny, ya, yc⟩ := y
      simp only at hxy hx256 hxe hxb hxB hxr
      subst hxy
      have k0 : wr.cell? ⟨gx, ox + i * 3, none⟩ = some (.int .u64 (ex : Int)) := hcx 0 _ rfl
      have k1 : wr.cell? ⟨gx, ox + i * 3 + 1, none⟩ = some (.int .i64 (bx : Int)) := hcx 1 _ rfl
      have k2 : wr.cell? ⟨gx, ox + i * 3 + 2, none⟩ = some (.slice ya 256 yc) := hcx 2 _ rfl
      have ilt : (i : Int) < (N : Int) := by omega
      have hsn := take_snoc hx
      have HSN := Lib.hid hsn
      have HX := Lib.hid (And.intro hx256 (And.intro hxe (And.intro hxb (And.intro hxB hxr))))
      clear hsn hcx hy hx hx256 hxe hxb hxB hxr hil
      generalize hA : atN (L.take i) (e, b) = A0
      generalize hH : hasN (L.take i) (e, b) = H0
      have HA := Lib.hid hA
      have HH := Lib.hid hH
      clear hA hH
      have hA0 : A0 ≤ 1000 := by
        have := atN_le (L.take i) (e, b); rw [HA.out, List.length_take] at this; have := HNL.out; omega
      have hi0 : i ≤ 1000 := by have := HNL.out; have := HN.out; omega
      generalize hT0 : rT (L.take i) (e, b) p T = T0 at HRS
      have HT0 := Lib.hid hT0
      clear hT0
      rcases Nat.lt_trichotomy ex e with h | h | h
      · have h1 : (ex : Int) < (e : Int) := by omega
        have h2 : ((ex : Int) == (e : Int)) = false := by simp; omega
        go_wp2
        go_roundw
        case rel =>
          refine ⟨i + 1, by omega, by go_num, by rw [HSN.out, atN_snoc, HA.out]; rw [if_pos (by simp [ltB, h])]; go_num, by rw [HSN.out, hasN_snoc, HH.out]; simp [show ex ≠ e by omega], ?_, Lib.hid (HBT.out.trans (BtR.below (Nat.le_of_lt (lt_of_block HRS.out.blk)) (below_box1 _ _)))⟩
          rw [HSN.out, rT_snoc, HT0.out, show rT1 (e, b) p T0 ((ex, bx), px) = T0 by unfold rT1; rw [if_neg (by simp; omega)]]
          exact Lib.hid (HRS.out.up (below_box1 _ _))
        case measure => simp [intOf]; omega
      · subst h
        rcases Nat.lt_trichotomy bx b with h | h | h
        · have h1 : (bx : Int) < (b : Int) := by omega
          have h2 : ((bx : Int) == (b : Int)) = false := by simp; omega
          go_wp2
          go_roundw
          case rel =>
            refine ⟨i + 1, by omega, by go_num, by rw [HSN.out, atN_snoc, HA.out]; rw [if_pos (by simp [ltB, h])]; go_num, by rw [HSN.out, hasN_snoc, HH.out]; simp [show bx ≠ b by omega], ?_, Lib.hid (HBT.out.trans (BtR.below (Nat.le_of_lt (lt_of_block HRS.out.blk)) (below_box1 _ _)))⟩
            rw [HSN.out, rT_snoc, HT0.out, show rT1 (ex, b) p T0 ((ex, bx), px) = T0 by unfold rT1; rw [if_neg (by simp; omega)]]
            exact Lib.hid (HRS.out.up (below_box1 _ _))
          case measure => simp [intOf]; omega
        · subst h
          have HXB : Hid (∀ o, BytesAt (wr.alloc o) ya yc px) := fun o => HX.out.2.2.2.1.up (below_box1 _ _) (Nat.le_refl _)
          have HPB : Hid (∀ o, BytesAt (wr.alloc o) (some ⟨qa, oa, none⟩) pc p) := fun o => (bytes_btr HB.out HBT.out HPR.out).up (below_box1 _ _) (Nat.le_refl _)
          have cr2 : ∀ o, (wr.alloc o).cell? ⟨r, 2, none⟩ = some (.bool T0.isSome) := fun o => (cells_at ((heap_old' _ _ _ (lt_of_block HRS.out.blk)).trans HRS.out.blk) 2).trans rfl
          have cr3 : ∀ o, (wr.alloc o).cell? ⟨r, 3, none⟩ = some (.int .u64 ((T0.getD (0, 0)).1 : Int)) := fun o => (cells_at ((heap_old' _ _ _ (lt_of_block HRS.out.blk)).trans HRS.out.blk) 3).trans rfl
          have cr4 : ∀ o, (wr.alloc o).cell? ⟨r, 4, none⟩ = some (.int .i64 ((T0.getD (0, 0)).2 : Int)) := fun o => (cells_at ((heap_old' _ _ _ (lt_of_block HRS.out.blk)).trans HRS.out.blk) 4).trans rfl
          have cr5 : ∀ o, (wr.alloc o).cell? ⟨r, 5, none⟩ = some (.slice none 0 0) := fun o => (cells_at ((heap_old' _ _ _ (lt_of_block HRS.out.blk)).trans HRS.out.blk) 5).trans rfl
          have fr : ∀ o j, (wr.alloc o).frozen? ⟨r, j, none⟩ = false := fun o j => by
            have := (heap_old' wr o _ (lt_of_block HRS.out.blk)).trans HRS.out.blk
            simp [World.frozen?, this]
          by_cases hpx : px = p
          · have HPX := Lib.hid hpx
            clear hpx
            have hd : decide (px ≠ p) = false := by simp [HPX.out]
            go_wp2_with (first
              | (refine wpList_conv rfl (.tmp 52) HX.out.1 (HXB.out _) rfl rfl ?_)
              | (refine wpList_conv rfl (.tmp 54) HP.out (HPB.out _) rfl rfl ?_)
              | (refine wpList_nes rfl (.tmp 53) (.tmp 55) _ HX.out.2.2.2.1.1 HB.out.1 rfl rfl rfl ?_)
              | fail)
            go_roundw
            case rel =>
              refine ⟨i + 1, by omega, by go_num, by rw [HSN.out, atN_snoc, HA.out]; rw [if_neg (by simp [ltB])]; rfl, by rw [HSN.out, hasN_snoc, HH.out]; simp, ?_, Lib.hid (HBT.out.trans (BtR.below (Nat.le_of_lt (lt_of_block HRS.out.blk)) (below_box1 _ _)))⟩
              rw [HSN.out, rT_snoc, HT0.out, show rT1 (ex, bx) p T0 ((ex, bx), px) = T0 by unfold rT1; rw [if_neg (by simp [HPX.out])]]
              exact Lib.hid (HRS.out.up (below_box1 _ _))
            case measure => simp [intOf]; omega
          · have hd : decide (px ≠ p) = true := by simp [hpx]
            cases T0 with
            | some t0 =>
              go_wp2_with (first
                | (refine wpList_conv rfl (.tmp 52) HX.out.1 (HXB.out _) rfl rfl ?_)
                | (refine wpList_conv rfl (.tmp 54) HP.out (HPB.out _) rfl rfl ?_)
                | (refine wpList_nes rfl (.tmp 53) (.tmp 55) _ HX.out.2.2.2.1.1 HB.out.1 rfl rfl rfl ?_)
                | fail)
              go_roundw
              case rel =>
                refine ⟨i + 1, by omega, by go_num, by rw [HSN.out, atN_snoc, HA.out]; rw [if_neg (by simp [ltB])]; rfl, by rw [HSN.out, hasN_snoc, HH.out]; simp, ?_, Lib.hid (HBT.out.trans (BtR.below (Nat.le_of_lt (lt_of_block HRS.out.blk)) (below_box1 _ _)))⟩
                rw [HSN.out, rT_snoc, HT0.out, show rT1 (ex, bx) p (some t0) ((ex, bx), px) = some t0 by unfold rT1; rw [if_neg (by simp)]]
                exact Lib.hid (HRS.out.up (below_box1 _ _))
              case measure => simp [intOf]; omega
            | none =>
              go_wp2_with (first
                | (refine wpList_conv rfl (.tmp 52) HX.out.1 (HXB.out _) rfl rfl ?_)
                | (refine wpList_conv rfl (.tmp 54) HP.out (HPB.out _) rfl rfl ?_)
                | (refine wpList_nes rfl (.tmp 53) (.tmp 55) _ HX.out.2.2.2.1.1 HB.out.1 rfl rfl rfl ?_)
                | fail)
              have hwl := lt_of_block HRS.out.blk
              obtain ⟨W1, hW1⟩ : ∃ W1, W1 = wr.alloc (.cells #[.int .u64 (ex : Int), .int .i64 (bx : Int), .slice ya 256 yc] 33) := ⟨_, rfl⟩
              rw [← hW1]
              have hr1 := (heap_old' wr (.cells #[.int .u64 (ex : Int), .int .i64 (bx : Int), .slice ya 256 yc] 33) r hwl).trans HRS.out.blk
              rw [← hW1] at hr1
              have b2 := block_at hr1 2 (.bool true)
              have b3 := block_at b2 3 (.int .u64 (ex : Int))
              have b4 := block_at b3 4 (.int .i64 (bx : Int))
              have b5 := block_at b4 5 (.slice none 0 0)
              have hB1 : BtR r wr W1 := by rw [hW1]; exact BtR.below (Nat.le_of_lt hwl) (below_box1 _ _)
              have hB5 := (((hB1.trans (btr_set r W1 2 (.bool true))).trans (btr_set r _ 3 (.int .u64 (ex : Int)))).trans (btr_set r _ 4 (.int .i64 (bx : Int)))).trans (btr_set r _ 5 (.slice none 0 0))
              have hR5 := HRS.out.set (T' := some (ex, bx)) hB5 b5
              have HR5 := Lib.hid hR5
              have HB5 := Lib.hid (HBT.out.trans hB5)
              clear hW1 hr1 b2 b3 b4 b5 hB1 hB5 hR5
              go_roundw
              case rel =>
                refine ⟨i + 1, by omega, by go_num, by rw [HSN.out, atN_snoc, HA.out]; rw [if_neg (by simp [ltB])]; rfl, by rw [HSN.out, hasN_snoc, HH.out]; simp, ?_, HB5⟩
                rw [HSN.out, rT_snoc, HT0.out, show rT1 (ex, bx) p none ((ex, bx), px) = some (ex, bx) by unfold rT1; rw [if_pos ⟨rfl, hpx, rfl⟩]]
                exact HR5
              case measure => simp [intOf]; omega
        · have h1 : ¬ (bx : Int) < (b : Int) := by omega
          have h2 : ((bx : Int) == (b : Int)) = false := by simp; omega
          go_wp2
          go_roundw
          case rel =>
            refine ⟨i + 1, by omega, by go_num, by rw [HSN.out, atN_snoc, HA.out]; rw [if_neg (by simp [ltB]; omega)]; rfl, by rw [HSN.out, hasN_snoc, HH.out]; simp [show bx ≠ b by omega], ?_, Lib.hid (HBT.out.trans (BtR.below (Nat.le_of_lt (lt_of_block HRS.out.blk)) (below_box1 _ _)))⟩
            rw [HSN.out, rT_snoc, HT0.out, show rT1 (ex, b) p T0 ((ex, bx), px) = T0 by unfold rT1; rw [if_neg (by simp; omega)]]
            exact Lib.hid (HRS.out.up (below_box1 _ _))
          case measure => simp [intOf]; omega
      · have h1 : ¬ (ex : Int) < (e : Int) := by omega
        have h2 : ((ex : Int) == (e : Int)) = false := by simp; omega
        go_wp2
        go_roundw
        case rel =>
          refine ⟨i + 1, by omega, by go_num, by rw [HSN.out, atN_snoc, HA.out]; rw [if_neg (by simp [ltB]; omega)]; rfl, by rw [HSN.out, hasN_snoc, HH.out]; simp [show ex ≠ e by omega], ?_, Lib.hid (HBT.out.trans (BtR.below (Nat.le_of_lt (lt_of_block HRS.out.blk)) (below_box1 _ _)))⟩
          rw [HSN.out, rT_snoc, HT0.out, show rT1 (e, b) p T0 ((ex, bx), px) = T0 by unfold rT1; rw [if_neg (by simp; omega)]]
          exact Lib.hid (HRS.out.up (below_box1 _ _))
        case measure => simp [intOf]; omega
    · have hiN : i = N := by omega
      have htk : L.take i = L := by rw [hiN, ← HN.out]; exact List.take_length
      rw [htk] at HRS ⊢
      have inlt : ¬ (i : Int) < (N : Int) := by omega
      have hAN := atN_le L (e, b)
      generalize hA : atN L (e, b) = A0 at hAN
      have HA := Lib.hid hA
      clear hA
      by_cases hH : hasN L (e, b) = true
      · rw [hH]
        have HH := Lib.hid hH
        have hpl := rplain_c HKL.out e b HE.out.1 HE.out.2 _ pc p HP.out wr ⟨_, _, _, _, _, _, _, HRS.out⟩ (bytes_btr HB.out HBT.out HPR.out)
        have HPL := Lib.hid hpl
        clear hH hpl htk
        go_wp2_with fail
        refine HPL.out.mono ?_
        rintro q w2 ⟨s, sc, rfl, h1, h2⟩
        have H1 := Lib.hid h1
        have H2 := Lib.hid h2
        clear h1 h2 HPL
        go_wp2
        go_ret
        have hfin : RSlr w2 r key (insL L (e, b) p) (rT L (e, b) p T) := by
          unfold insL
          rw [if_pos HH.out]
          exact ⟨_, _, _, _, _, _, _, HRS.out.up H2.out⟩
        exact ⟨s, sc, rfl, H1.out, hfin, HBT.out.trans (BtR.below (Nat.le_of_lt (lt_of_block HRS.out.blk)) H2.out)⟩
      · have hHf : hasN L (e, b) = false := by simpa using hH
        rw [hHf]
        have HHF := Lib.hid hHf
        have hwl := lt_of_block HRS.out.blk
        have hcl : N ≤ cl := by have := HRS.out.cap; rw [HN.out] at this; exact this
        have hX : X.length = N := by rw [HRS.out.ones.1, HN.out]
        have hN0 : N ≤ 1000 := by have := HNL.out; rw [HN.out] at this; exact this
        have hAN' : A0 ≤ N := by rw [← HN.out]; exact hAN
        have cr1 : ∀ o, (wr.alloc o).cell? ⟨r, 1, none⟩ = some (.slice a N cl) := fun o => by
          rw [← HN.out]; exact (cells_at ((heap_old' _ _ _ hwl).trans HRS.out.blk) 1).trans rfl
        clear hH hHf htk hAN
        go_wp2_with (first
          | (refine oneRT.wpList_subH rfl (.tmp 80) (.tmp 81) rfl rfl rfl (by omega) ?_)
          | (refine oneRT.wpList_append rfl (.tmp 76) (.tmp 82) rfl (base := wr.heap.size) (L := []) rfl (oneRT.own_empty wr wr.heap.size (Nat.le_refl _)) (a := a) (cap := cl) (M := X.take A0) rfl (by rw [List.length_take]; omega) ((HRS.out.row.take A0).up (below_box1 _ _) (Nat.le_refl _)) (fun h => by have := HRS.out.nil h; omega) (fun p hp => (HRS.out.ap p hp).2) (by unfold maxLen; omega) (by omega) (by rw [World.size_alloc]; omega) ?_; intro v1 w1 hown1 hg1 hnil1
             have HB1 : Hid (Below wr.heap.size wr w1) := (below_box1 wr _).trans (below_grown (oneRT.own_empty wr wr.heap.size (Nat.le_refl _)) hg1 (Nat.le_refl _) (by rw [World.size_alloc]; omega))
             rw [Nat.zero_add, List.nil_append] at hown1
             have HO1 := Lib.hid hown1
             have HOE1 : Hid ((w1.alloc (.cells #[] 5)).ownsRow w1.heap.size 5 1 (.slice (some ⟨w1.heap.size, 0, none⟩) 0 0) 0 []) := ⟨rfl, .inr ⟨_, 0, #[], rfl, Nat.le_refl _, heap_new' _ _, Nat.le_refl _, by unfold maxLen; omega, rfl, rfl⟩⟩
             have HPB1 : Hid (BytesAt w1 (some ⟨qa, oa, none⟩) pc p) := (bytes_btr HB.out HBT.out HPR.out).up HB1.out (Nat.le_refl _)
             clear hown1 hg1 hnil1 cr1)
          | (refine wpList_append_bytes (v := .slice (some ⟨w1.heap.size, 0, none⟩) 0 0) (base := w1.heap.size) (n := 0) (xs := []) rfl (.tmp 87) (.tmp 88) rfl rfl HOE1.out rfl HP.out (HPB1.out.up (below_box1 _ _) (Nat.le_refl _)) (fun h => by cases h) (by omega) (by rw [World.size_alloc]; omega) ?_; intro v2 w2 hown2 hg2
             have HB2 : Hid (Below w1.heap.size w1 w2) := (below_box1 w1 _).trans (below_grown HOE1.out hg2 (Nat.le_refl _) (by rw [World.size_alloc]; omega))
             obtain ⟨g2, sc, cur2, hv2, hgb2, hblk2⟩ := own_shapeR hown2 (show 0 < 0 + 256 by decide)
             have hsb : BytesAt w2 (some ⟨g2, 0, none⟩) sc p := by
               obtain ⟨sa', sc', hv2', hsb⟩ := own_bytes (l := p) (n := 0 + 256) (by rw [HP.out]) HB.out.1 hown2
               rw [hv2] at hv2'; cases hv2'; exact hsb
             have HSB := Lib.hid hsb
             have HSG := Lib.hid (And.intro hgb2 hblk2)
             subst hv2
             rw [show (0 + 256 : Nat) = 256 from rfl]
             clear hown2 hg2 hsb HOE1 hgb2 hblk2)
          | (refine oneRT.wpList_build (by decide) rfl (.tmp 90) rfl (p := ⟨(e, b), some ⟨g2, 0, none⟩, sc⟩) rfl ?_)
          | (refine oneRT.wpList_append rfl (.tmp 84) (.tmp 91) rfl (base := wr.heap.size) (v := v1) (n := A0) (L := X.take A0) rfl ((own_upR HO1.out HB2.out).alloc _) (M := [⟨(e, b), some ⟨g2, 0, none⟩, sc⟩]) rfl rfl (rowK_one (fun _ => rfl) (heap_new' _ _)) (fun h => by cases h) (by rintro _ ⟨⟩; rfl) (by unfold maxLen; omega) (by omega) (by have := HB1.out.size; have := HB2.out.size; rw [World.size_alloc]; omega) ?_; intro v3 w3 hown3 hg3 hnil3
             have HB3 : Hid (Below wr.heap.size wr w3) := (HB1.out.trans (HB2.out.mono HB1.out.size)).trans (((below_box1 w2 _).mono (Nat.le_trans HB1.out.size HB2.out.size)).trans (below_grown ((own_upR HO1.out HB2.out).alloc _) hg3 (Nat.le_refl _) (by have := HB1.out.size; have := HB2.out.size; rw [World.size_alloc]; omega)))
             have HSG3 : Hid (w3.heap[g2]? = w2.heap[g2]?) := (own_otherR ((own_upR HO1.out HB2.out).alloc _) hg3 ((heap_old' w2 _ _ (lt_of_block HSG.out.2)).trans HSG.out.2) (by decide)).trans (heap_old' w2 _ _ (lt_of_block HSG.out.2))
             have HO3 := Lib.hid hown3
             have cr3 : w3.cell? ⟨r, 1, none⟩ = some (.slice a N cl) := by
               rw [← HN.out]; exact (cells_at ((HB3.out.block r hwl).trans HRS.out.blk) 1).trans rfl
             have fr3 : w3.frozen? ⟨r, 1, none⟩ = false := by
               have := (HB3.out.block r hwl).trans HRS.out.blk
               simp [World.frozen?, this]
             clear hown3 hg3 hnil3 HO1)
          | (refine oneRT.wpList_subL rfl (.tmp 98) (.tmp 99) rfl rfl rfl (by omega) ?_)
          | (refine oneRT.wpList_append rfl (.tmp 94) (.tmp 100) rfl (base := wr.heap.size) (v := v3) (n := A0 + 1) (L := X.take A0 ++ [⟨(e, b), some ⟨g2, 0, none⟩, sc⟩]) rfl HO3.out (a := subK 3 a cl A0) (cap := cl - A0) (M := X.drop A0) rfl (by rw [List.length_drop]; omega) ((HRS.out.row.up HB3.out (Nat.le_refl _)).sub (by rw [hX]; exact hcl)) (fun h => by have := subK_nil HRS.out.nil (show A0 ≤ cl by omega) h; omega) (subK_spot fun q hq => (HRS.out.ap q hq).2) (by unfold maxLen; omega) (by omega) HB3.out.size ?_; intro v4 w4 hown4 hg4 hnil4
             have HB4 : Hid (Below wr.heap.size wr w4) := HB3.out.trans (below_grown HO3.out hg4 (Nat.le_refl _) HB3.out.size)
             have HSG4 : Hid (w4.heap[g2]? = w2.heap[g2]?) := (own_otherR HO3.out hg4 (HSG3.out.trans HSG.out.2) (by decide)).trans HSG3.out
             obtain ⟨a4, c4, hv4, hc4, hn4, hs4⟩ := own_parts hown4
             subst hv4
             have HO4 := Lib.hid hown4
             have HC4 := Lib.hid (And.intro hc4 (And.intro hn4 hs4))
             have cr4 : w4.cell? ⟨r, 1, none⟩ = some (.slice a N cl) := by
               rw [← HN.out]; exact (cells_at ((HB4.out.block r hwl).trans HRS.out.blk) 1).trans rfl
             have fr4 : w4.frozen? ⟨r, 1, none⟩ = false := by
               have := (HB4.out.block r hwl).trans HRS.out.blk
               simp [World.frozen?, this]
             clear hown4 hg4 hnil4 hc4 hn4 hs4 cr3 fr3 HO3)
          | fail)
        obtain ⟨w5, hw5⟩ : ∃ w5, w5 = w4.setCell ⟨r, 1, none⟩ (.slice a4 (A0 + 1 + (N - A0)) c4) := ⟨_, rfl⟩
        rw [← hw5]
        have hbt5 : BtR r wr w5 := (BtR.below (Nat.le_of_lt hwl) HB4.out).trans (by rw [hw5]; exact btr_set r w4 1 _)
        have hblk5 := block_at ((HB4.out.block r hwl).trans HRS.out.blk) 1 (.slice a4 (A0 + 1 + (N - A0)) c4)
        rw [← hw5] at hblk5
        have hne := HRS.out.cip.ne HRS.out.blk
        have hlt2 := HRS.out.cip.lt
        have hg2r : g2 ≠ r := by have := HSG.out.1; have := HB1.out.size; omega
        have hby5 : BytesAt w5 (some ⟨g2, 0, none⟩) sc p := bytes_keep HSB.out (by rw [hw5, Below.heap_setCell _ _ _ _ hg2r]; exact HSG4.out)
        have hlen : (L.take A0 ++ ((e, b), p) :: L.drop A0).length = A0 + 1 + (N - A0) := by
          rw [List.length_append, List.length_cons, List.length_take, List.length_drop, HN.out]; omega
        have hrow4 := rowK_own (enc := encO) (k := 3) (fun _ => rfl) (by decide) HO4.out
        have hR : RSl w5 r key (L.take A0 ++ ((e, b), p) :: L.drop A0) (rT L (e, b) p T) c g nw cp a4 c4 (X.take A0 ++ [⟨(e, b), some ⟨g2, 0, none⟩, sc⟩] ++ X.drop A0) := by
          refine ⟨?_, HRS.out.cip.keepR (hbt5.2 c hlt2.1 hne.1) (hbt5.2 g hlt2.2 hne.2), by rw [hlen]; exact HC4.out.1, HC4.out.2.1, fun q hq => ⟨?_, (HC4.out.2.2 q hq).2⟩, ?_, ?_⟩
          · rw [hlen]; exact hblk5
          · have := (HC4.out.2.2 q hq).1; omega
          · refine rowK_btr hrow4 (by rw [hw5]; exact btr_set r w4 1 _) fun q hq => ?_
            have := (HC4.out.2.2 q hq).1; omega
          · rw [List.append_assoc]
            refine ((HRS.out.ones.btr hbt5).take A0).app (OnesAt.app (M := L.drop A0) (L := [((e, b), p)]) (OnesAt.one ⟨rfl, HP.out, HE.out.1, HE.out.2, hby5, ?_⟩) ((HRS.out.ones.btr hbt5).drop A0))
            rintro _ ⟨⟩
            exact hg2r
        have hpl := rplain_c HKL.out e b HE.out.1 HE.out.2 _ pc p HP.out w5 ⟨_, _, _, _, _, _, _, hR⟩ (bytes_btr (bytes_btr HB.out HBT.out HPR.out) hbt5 HPR.out)
        have HPL := Lib.hid hpl
        have HR := Lib.hid hR
        have HBT5 := Lib.hid (HBT.out.trans hbt5)
        clear hpl hR hbt5 hblk5 hne hlt2 hg2r hby5 hlen hrow4 hw5 cr4 fr4
        refine HPL.out.mono ?_
        rintro q w6 ⟨s, sc6, rfl, h1, h2⟩
        have H1 := Lib.hid h1
        have H2 := Lib.hid h2
        clear h1 h2 HPL
        go_wp2
        go_ret
        have hfin : RSlr w6 r key (insL L (e, b) p) (rT L (e, b) p T) := by
          unfold insL
          rw [if_neg (by rw [HHF.out]; decide), HA.out]
          exact ⟨_, _, _, _, _, _, _, HR.out.up H2.out⟩
        exact ⟨s, sc6, rfl, H1.out, hfin, HBT5.out.trans (BtR.below (Nat.le_of_lt (lt_of_block HR.out.blk)) H2.out)⟩
end Go.Proofs.Ytinjafacnekkcaa
