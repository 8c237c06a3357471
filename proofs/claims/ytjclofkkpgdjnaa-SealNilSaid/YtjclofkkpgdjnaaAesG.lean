/- Contracts of state.mix, state.unmix, state.all. -/
import Derived.Test.YtjclofkkpgdjnaaAesF
set_option linter.unusedVariables false
namespace Go.Proofs.Ytjclofkkpgdjnaa
open Go Go.RowKit GfM
theorem call_Mix (x : Value) (w : World) : Sem.run Try.prog (callFunc 102 #[x]) w = .ok (.enter 102 #[x]) w := by
  go_simp
def smixL (l : List Nat) : List Nat := colsL mixN l
def sunmixL (l : List Nat) : List Nat := colsL plainN l
set_option maxRecDepth 100000 in
set_option maxHeartbeats 2000000 in
theorem smix_c (l : List Nat) (hl : l.length = 16) (hb : ∀ j, j < 16 → l.getD j 0 < 256) (b : Nat) (w : World) :
    Calls Try.prog 78 #[.agg (stA l b)] w fun e w' => e = .returned (.agg (stA (smixL l) b)) ∧ Below w.heap.size w w' := by
  have HM := Lib.hid (fun w => columns_c 102 mixN mix_c call_Mix l hl hb b w)
  have HL := Lib.hid hl
  have B0 : Hid (∀ (o1 : Obj), ((w.alloc (Obj.cells (stA l b) 148)).alloc o1).heap[w.heap.size]? = some (.cells (stA l b) 148 (0, 0))) := fun o1 => by
    rw [heap_old' _ _ _ (by simp), heap_new']
  have B2 : Hid (∀ (o0 : Obj) (Z : Array Value), ((w.alloc o0).alloc (Obj.cells Z 148)).heap[w.heap.size + 1]? = some (.cells Z 148 (0, 0))) := fun o0 Z => by
    rw [show w.heap.size + 1 = (w.alloc o0).heap.size by simp, heap_new']
  clear hl hb
  go_enter Try.func78, Try.ntmps78
  go_wp2_with (first
        | (refine wpList_load_row rfl 148 (.tmp 1) rfl w.heap.size rfl _ _ _ _ (B0.out _) Try.underlying148 rfl (by rw [st17, stA_size, HL.out]) ?_)
        | fail)
  refine (HM.out _).mono ?_
  rintro e w1 ⟨rfl, hb1⟩
  have h2 := (hb1.block (w.heap.size + 1) (by simp)).trans (B2.out _ _)
  have HB : Hid (Below w.heap.size w w1) := (((Below.refl _ _).alloc (Nat.le_refl _) _).alloc (by simp) _).trans (hb1.mono (by simp; omega))
  have H2 := Lib.hid h2
  clear h2 hb1 B0 B2 HM
  go_wp2_with (first
        | (refine wpList_store_row rfl 148 (.tmp 2) (.tmp 4) rfl (w.heap.size + 1) _ rfl rfl 148 _ H2.out (by rw [st17, stA_size]; simp [colsL]) (by simp [stA_size, colsL]) (stA_one _ _) ?_)
        | fail)
  exact bodyPost_ret (results_cell_row rfl _ _ (w.heap.size + 1) 148 (stA (smixL l) b) (0, 0) _ rfl (setRow_heap _ _ _ _ _ _ H2.out) Try.underlying148 rfl (by rw [st17, stA_size]; simp [smixL, colsL])) rfl ⟨rfl, below_setRow HB.out (by omega) _⟩
/-- sixteen bytes -/
def By (l : List Nat) : Prop := l.length = 16 ∧ ∀ j, j < 16 → l.getD j 0 < 256
theorem by_map (g : Nat → Nat) (h : ∀ k, k < 16 → g k < 256) : By ((List.range 16).map g) :=
  ⟨by simp, fun j hj => by simp [hj]; exact h j hj⟩
/-- a step of a state -/
structure Stp (F : FuncId) (G : List Nat → List Nat) : Prop where
  walk : ∀ (l : List Nat), By l → ∀ (b : Nat) (w : World), IsBox w b → Calls Try.prog F #[.agg (stA l b)] w fun e w' => e = .returned (.agg (stA (G l) b)) ∧ Below w.heap.size w w'
  okay : ∀ l, By l → By (G l)
  call : ∀ (x : Value) (w : World), Sem.run Try.prog (callFunc F #[x]) w = .ok (.enter F #[x]) w
def stps (Fs : List (FuncId × (List Nat → List Nat))) (k : Nat) (l : List Nat) : List Nat := (Fs.take k).foldl (fun l p => p.2 l) l
theorem stps_by (Fs : List (FuncId × (List Nat → List Nat))) (hF : ∀ p ∈ Fs, Stp p.1 p.2) (l : List Nat) (hl : By l) : ∀ k, By (stps Fs k l) := by
  intro k
  unfold stps
  have : ∀ p ∈ Fs.take k, Stp p.1 p.2 := fun p hp => hF p (List.mem_of_mem_take hp)
  generalize Fs.take k = Gs at this
  induction Gs generalizing l with
  | nil => exact hl
  | cons p Gs ih =>
    rw [List.foldl_cons]
    exact ih (p.2 l) ((this p (by simp)).okay l hl) fun q hq => this q (by simp [hq])
theorem stps_next (Fs : List (FuncId × (List Nat → List Nat))) (k : Nat) (hk : k < Fs.length) (l : List Nat) : stps Fs (k + 1) l = Fs[k].2 (stps Fs k l) := by
  unfold stps; rw [List.take_succ_eq_append_getElem hk, List.foldl_append]; rfl
def fnV (Fs : List (FuncId × (List Nat → List Nat))) : Array Value := (Fs.map fun p => Value.func (.func p.1) #[] #[]).toArray
set_option maxRecDepth 100000 in
set_option maxHeartbeats 4000000 in
theorem all_c (Fs : List (FuncId × (List Nat → List Nat))) (hF : ∀ p ∈ Fs, Stp p.1 p.2) (hn : Fs.length < 100) (l : List Nat) (hl : By l) (b : Nat) (w : World) (hB : IsBox w b) (p : Nat) (t : TypeId) (hp : w.heap[p]? = some (.cells (fnV Fs) t (0, 0))) :
    Calls Try.prog 75 #[.agg (stA l b), .slice (some ⟨p, 0, none⟩) Fs.length Fs.length] w fun e w' => e = .returned (.agg (stA (stps Fs Fs.length l) b)) ∧ Below w.heap.size w w' := by
  have HF := Lib.hid hF
  have HL := Lib.hid hl
  have HB := Lib.hid hB
  have HP := Lib.hid hp
  have B0 : Hid (∀ (o1 : Obj), ((w.alloc (Obj.cells (stA l b) 148)).alloc o1).heap[w.heap.size]? = some (.cells (stA (stps Fs 0 l) b) 148 (0, 0))) := fun o1 => by
    rw [heap_old' _ _ _ (by simp), heap_new']; rfl
  have B2 : Hid (∀ (o0 : Obj) (Z : Array Value), ((w.alloc o0).alloc (Obj.cells Z 148)).heap[w.heap.size + 1]? = some (.cells Z 148 (0, 0))) := fun o0 Z => by
    rw [show w.heap.size + 1 = (w.alloc o0).heap.size by simp, heap_new']
  clear hF hl hB hp
  obtain ⟨n, hnn⟩ : ∃ n, n = Fs.length := ⟨_, rfl⟩
  have HN := Lib.hid hnn
  rw [← hnn]
  rw [← hnn] at hn
  clear hnn
  go_enter Try.func75, Try.ntmps75
  go_wp2
  go_loopw [9] (fun vi wr => ∃ k : Nat, k ≤ n ∧ vi = .int .i64 (k : Int) ∧ Hid (wr.heap[w.heap.size]? = some (.cells (stA (stps Fs k l) b) 148 (0, 0))) ∧ Hid (∃ Z, Z.size = 17 ∧ wr.heap[w.heap.size + 1]? = some (.cells Z 148 (0, 0))) ∧ Hid (Below w.heap.size w wr)) (fun vi _ => n - (intOf vi).toNat)
  case atStart => exact ⟨0, by omega, rfl, B0.out _, ⟨_, rfl, B2.out _ _⟩, (((Below.refl _ _).alloc (Nat.le_refl _) _).alloc (by simp) _)⟩
  case round =>
    clear B0 B2
    obtain ⟨k, hk, rfl, h0, h2, hbel⟩ := hrel
    have hby := stps_by Fs HF.out l HL.out k
    have HBY := Lib.hid hby
    clear hby
    by_cases hlt : k < n
    · have hk2 : k < Fs.length := by rw [← HN.out]; exact hlt
      obtain ⟨q, hq⟩ : ∃ q, q = Fs[k] := ⟨_, rfl⟩
      obtain ⟨F, G⟩ := q
      have hS : Stp F G := by have := HF.out Fs[k] (List.getElem_mem _); rw [← hq] at this; exact this
      have hcall := hS.call
      have HW : Hid (∀ w, IsBox w b → Calls Try.prog F #[.agg (stA (stps Fs k l) b)] w fun e w' => e = .returned (.agg (stA (G (stps Fs k l)) b)) ∧ Below w.heap.size w w') := fun w h => hS.walk _ HBY.out b w h
      have hnx := stps_next Fs k hk2 l
      rw [← hq] at hnx
      have c0 : wr.cell? ⟨p, k, none⟩ = some (.func (.func F) #[] #[]) := by
        rw [cells_at ((hbel.out.block p (lt_of_block HP.out)).trans HP.out) k]
        unfold fnV
        rw [List.getElem?_toArray, List.getElem?_map, List.getElem?_eq_getElem hk2, ← hq]; rfl
      have HNX := Lib.hid hnx
      have HBX : Hid (IsBox wr b) := HB.out.later hbel.out HB.out.lt
      have hd : decide ((k : Int) < (n : Int)) = true := by simp; omega
      clear hS hnx hq
      go_wp2_with (first
        | (refine wpList_load_row rfl 148 (.tmp 2) rfl w.heap.size rfl _ _ _ _ h0.out Try.underlying148 rfl (by rw [st17, stA_size, HBY.out.1]) ?_)
        | fail)
      refine (HW.out _ HBX.out).mono ?_
      rintro e w1 ⟨rfl, hb1⟩
      have g0 := (hb1.block _ (lt_of_block h0.out)).trans h0.out
      obtain ⟨Z, hZ, hZ2⟩ := h2.out
      have g2 := (hb1.block _ (lt_of_block hZ2)).trans hZ2
      have HB1 : Hid (Below w.heap.size w w1) := hbel.out.trans (hb1.mono (by have := lt_of_block h0.out; omega))
      have G0 := Lib.hid g0
      have G2 := Lib.hid g2
      have HZ := Lib.hid hZ
      have HG : Hid (By (G (stps Fs k l))) := by rw [← HNX.out]; exact stps_by Fs HF.out l HL.out (k + 1)
      clear h0 h2 g0 g2 hbel hb1 hZ hZ2
      go_wp2_with (first
        | (refine wpList_store_row rfl 148 (.tmp 2) (.tmp 15) rfl w.heap.size _ rfl rfl 148 _ G0.out (by rw [st17, stA_size, HG.out.1]) (by rw [stA_size, stA_size, HG.out.1, HBY.out.1]) (stA_one _ _) ?_)
        | fail)
      go_roundw
      case rel => exact ⟨k + 1, by omega, by go_num, by rw [HNX.out]; exact setRow_heap _ _ _ _ _ _ G0.out, ⟨Z, HZ.out, (setRow_other _ _ _ _ (by omega)).trans G2.out⟩, below_setRow HB1.out (Nat.le_refl _) _⟩
      case measure => simp [intOf]; omega
    · obtain rfl : k = n := by omega
      obtain ⟨Z, hZ, hZ2⟩ := h2.out
      have HZ := Lib.hid hZ
      have HZ2 := Lib.hid hZ2
      clear hZ hZ2 h2
      go_wp2_with (first
        | (refine wpList_load_row rfl 148 (.tmp 2) rfl w.heap.size rfl _ _ _ _ h0.out Try.underlying148 rfl (by rw [st17, stA_size, HBY.out.1]) ?_)
        | (refine wpList_store_row rfl 148 (.tmp 4) (.tmp 17) rfl (w.heap.size + 1) _ rfl rfl 148 _ HZ2.out (by rw [st17, stA_size, HBY.out.1]) (by rw [HZ.out, stA_size, HBY.out.1]) (stA_one _ _) ?_))
      exact bodyPost_ret (results_cell_row rfl _ _ (w.heap.size + 1) 148 (stA (stps Fs k l) b) (0, 0) _ rfl (setRow_heap _ _ _ _ _ _ HZ2.out) Try.underlying148 rfl (by rw [st17, stA_size, HBY.out.1])) rfl ⟨by rw [HN.out], below_setRow hbel.out (by omega) _⟩
theorem stp_sub : Stp 76 ssubL := ⟨fun l h b w hB => ssub_c l h.1 h.2 b w hB, fun l h => by_map _ fun k hk => sbx_lt _ (h.2 k hk), fun x w => by go_simp⟩
theorem stp_shift : Stp 77 shiftL := ⟨fun l h b w hB => shift_c l h.1 b w, fun l h => by_map _ fun k hk => h.2 _ (by unfold sig; omega), fun x w => by go_simp⟩
theorem stp_mix : Stp 78 smixL := ⟨fun l h b w hB => smix_c l h.1 h.2 b w, fun l h => by_map _ fun k hk => mixN_lt _ (fun j hj => h.2 _ (by omega)) _ (by omega), fun x w => by go_simp⟩
end Go.Proofs.Ytjclofkkpgdjnaa
