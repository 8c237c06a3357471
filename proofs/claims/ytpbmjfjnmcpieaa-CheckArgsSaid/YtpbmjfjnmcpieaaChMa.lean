/- meta.Parse: the plain part and the slices. -/
import Derived.Test.YtpbmjfjnmcpieaaChZ
set_option linter.unusedVariables false
set_option linter.unusedSimpArgs false
namespace Go.Proofs.Ytpbmjfjnmcpieaa
open Go Go.RowKit
def mapsPg : List (List Nat) → Option (List Pg)
  | [] => some []
  | b :: bs => match parseP b with
    | none => none
    | some P => (mapsPg bs).map (P ++ ·)
/-- what a heap's first blocks tell -/
def metaN (n : Nat) (L : List (List Nat)) : Option (Nat × List Nat × List Pg) :=
  match headN (L.getD 0 []) with
  | none => none
  | some (x, R) => match mapsPg (L.drop 1) with
    | none => none
    | some P => if mayM x (P.take n) && !(P.drop n).any (fun p => !freeP p) then some (x, R, P.take n) else none
theorem parseP_len {b : List Nat} {P : List Pg} (h : parseP b = some P) : P.length = 16 := by
  unfold parseP at h
  split at h
  · cases h; simp [pgsN]
  · cases h
theorem pgsN_size (b : List Nat) (h : ∀ x ∈ b, x < 256) : ∀ p ∈ pgsN b, p.size < 4294967296 := by
  intro p hp
  unfold pgsN at hp
  obtain ⟨j, _, rfl⟩ := List.mem_map.1 hp
  exact (pgOf_lt _ fun x hx => h x (List.mem_of_mem_drop (List.mem_of_mem_take hx))).2.2.2.1
theorem parseP_eq {b : List Nat} {P : List Pg} (h : parseP b = some P) : P = pgsN b ∧ (pgsN b).all oneP = true := by
  unfold parseP at h
  split at h
  · rename_i h1; cases h; exact ⟨rfl, h1⟩
  · cases h
theorem mapsPg_cons (b : List Nat) (bs : List (List Nat)) : mapsPg (b :: bs) = match parseP b with
    | none => none
    | some P => (mapsPg bs).map (P ++ ·) := rfl
def subP (o cap l : Nat) : Nat := if cap = l then o else o + l * 5
theorem run_subPl (g o len cap l : Nat) (hl : l ≤ len) (w : World) :
    (Instr.sliceAt 50 (.slice (some ⟨g, o, none⟩) len cap) (some (.int .i64 (l : Int))) none none).run Try.prog w = .ok (.slice (some ⟨g, subP o cap l, none⟩) (len - l) (cap - l)) w := by
  obtain ⟨i0, hi, hz⟩ := Option.map_eq_some_iff.1 pginfo
  have he : Try.prog.elem 50 = 81 := by kernel_rfl
  have hu : Try.prog.underlying 50 = some (.slice (Try.prog.elem 50)) := by rw [he]; exact Try.underlying50
  rw [run_sliceAt_slice (h := hu), run_slice_l (ht := hu) (h0 := by omega) (h1 := by omega)]
  rw [he, run_sizeOf (w := w) hi, show Try.prog.cellsOf 81 = 5 from (by kernel_rfl)]
  simp only [Result.andThen_ok, sliced, Int.toNat_natCast]
  unfold subP
  split
  · rfl
  · simp only [Option.map_some]; rw [add_plain]
theorem run_subPh (g o len cap h : Nat) (hh : h ≤ cap) (w : World) :
    (Instr.sliceAt 50 (.slice (some ⟨g, o, none⟩) len cap) none (some (.int .i64 (h : Int))) none).run Try.prog w = .ok (.slice (some ⟨g, o, none⟩) h cap) w := by
  obtain ⟨i0, hi, hz⟩ := Option.map_eq_some_iff.1 pginfo
  have he : Try.prog.elem 50 = 81 := by kernel_rfl
  have hu : Try.prog.underlying 50 = some (.slice (Try.prog.elem 50)) := by rw [he]; exact Try.underlying50
  rw [run_sliceAt_slice (h := hu), run_slice_h (ht := hu) (h0 := by omega) (h2 := by omega)]
  rw [he, run_sizeOf (w := w) hi, show Try.prog.cellsOf 81 = 5 from (by kernel_rfl)]
  simp only [Result.andThen_ok, sliced, Int.toNat_natCast, Nat.zero_mul, Nat.sub_zero]
  split
  · rfl
  · simp only [Option.map_some]; rw [add_plain, Nat.add_zero]
theorem wpList_sliceP {w : World} {ops : Array Oper} {rest : List Oper} {op : Oper} {A : Act} {Q : Exit → Act → World → Prop} (hw : Region.wanted op (yielded ops A.tmps) = true) {g o len cap l : Nat} (x y : Operand) (ho : op.op = .slice 50 x (some y) none none) (hx : A.eval x = .slice (some ⟨g, o, none⟩) len cap) (hy : A.eval y = .int .i64 (l : Int))
    (hl : l ≤ len) (hK : wpList Try.prog ops Q rest (A.put op.dst (.slice (some ⟨g, subP o cap l, none⟩) (len - l) (cap - l))) w) : wpList Try.prog ops Q (op :: rest) A w :=
  wpList_met hw fun _ hk => by
    unfold Oper.wp
    have : (execOp A.eval op).run Try.prog w = .ok (.value (.slice (some ⟨g, subP o cap l, none⟩) (len - l) (cap - l))) w := by
      unfold execOp
      simp only [ho, Option.map_some, Option.map_none, hx, hy, Sem.run_bind, run_subPl g o len cap l hl w, Result.andThen_ok]
      rfl
    rw [this]
    exact hk _ _ hK
theorem PgsAt.take {w : World} {a : Option Addr} {L : List Pg} (h : PgsAt w a L) (n : Nat) : PgsAt w a (L.take n) := by
  intro i p hp
  have hi : i < n := by
    have := (List.getElem?_eq_some_iff.1 hp).1
    rw [List.length_take] at this; omega
  rw [List.getElem?_take_of_lt hi] at hp
  exact h i p hp
theorem PgsAt.drop {w : World} {g o cap : Nat} {L : List Pg} (h : PgsAt w (some ⟨g, o, none⟩) L) (n : Nat) (hc : L.length ≤ cap) : PgsAt w (some ⟨g, subP o cap n, none⟩) (L.drop n) := by
  intro i p hp
  rw [List.getElem?_drop] at hp
  have hi := (List.getElem?_eq_some_iff.1 hp).1
  obtain ⟨g', o', e1, h2, h3⟩ := h (n + i) p hp
  cases e1
  have hs : subP o cap n = o + n * 5 := by unfold subP; rw [if_neg (by omega)]
  refine ⟨g, subP o cap n, rfl, h2, ?_⟩
  rw [hs, show o + n * 5 + i * 5 = o + (n + i) * 5 by rw [Nat.add_mul]; omega]
  exact h3
/-- rows of rows: what stands from l on -/
theorem RowsAt.drop {w : World} {g o cap : Nat} {L : List (List Nat)} (h : RowsAt w (some ⟨g, o, none⟩) L) (n : Nat) (hc : L.length ≤ cap) : RowsAt w (some ⟨g, subO o cap n, none⟩) (L.drop n) := by
  intro i p hp
  rw [List.getElem?_drop] at hp
  have hi := (List.getElem?_eq_some_iff.1 hp).1
  obtain ⟨g', o', v, e1, h2, h3, h4⟩ := h (n + i) p hp
  cases e1
  have hs : subO o cap n = o + n := by unfold subO; rw [if_neg (by omega)]
  exact ⟨g, subO o cap n, v, rfl, h2, by rw [hs, Nat.add_assoc]; exact h3, h4⟩
theorem RowsAt.take {w : World} {a : Option Addr} {L : List (List Nat)} (h : RowsAt w a L) (n : Nat) : RowsAt w a (L.take n) := by
  intro i p hp
  have hi : i < n := by
    have := (List.getElem?_eq_some_iff.1 hp).1
    rw [List.length_take] at this; omega
  rw [List.getElem?_take_of_lt hi] at hp
  exact h i p hp
theorem run_subRl (g o len cap l : Nat) (hl : l ≤ len) (w : World) :
    (Instr.sliceAt 32 (.slice (some ⟨g, o, none⟩) len cap) (some (.int .i64 (l : Int))) none none).run Try.prog w = .ok (.slice (some ⟨g, subO o cap l, none⟩) (len - l) (cap - l)) w := by
  obtain ⟨i0, hi, hz0, hz1, hz2⟩ := sl_parts
  have he : Try.prog.elem 32 = 34 := by kernel_rfl
  have hu : Try.prog.underlying 32 = some (.slice (Try.prog.elem 32)) := by rw [he]; exact Try.underlying32
  rw [run_sliceAt_slice (h := hu), run_slice_l (ht := hu) (h0 := by omega) (h1 := by omega)]
  rw [he, run_sizeOf (w := w) hi, show Try.prog.cellsOf 34 = 1 from (by kernel_rfl)]
  simp only [Result.andThen_ok, sliced, Int.toNat_natCast, Nat.mul_one]
  unfold subO
  split
  · rfl
  · simp only [Option.map_some]; rw [add_plain]
theorem run_subRh (g o len cap h : Nat) (hh : h ≤ cap) (w : World) :
    (Instr.sliceAt 32 (.slice (some ⟨g, o, none⟩) len cap) none (some (.int .i64 (h : Int))) none).run Try.prog w = .ok (.slice (some ⟨g, o, none⟩) h cap) w := by
  obtain ⟨i0, hi, hz0, hz1, hz2⟩ := sl_parts
  have he : Try.prog.elem 32 = 34 := by kernel_rfl
  have hu : Try.prog.underlying 32 = some (.slice (Try.prog.elem 32)) := by rw [he]; exact Try.underlying32
  rw [run_sliceAt_slice (h := hu), run_slice_h (ht := hu) (h0 := by omega) (h2 := by omega)]
  rw [he, run_sizeOf (w := w) hi, show Try.prog.cellsOf 34 = 1 from (by kernel_rfl)]
  simp only [Result.andThen_ok, sliced, Int.toNat_natCast, Nat.sub_zero]
  split
  · rfl
  · simp only [Option.map_some]; rw [add_plain]; simp
theorem wpList_sliceR {w : World} {ops : Array Oper} {rest : List Oper} {op : Oper} {A : Act} {Q : Exit → Act → World → Prop} (hw : Region.wanted op (yielded ops A.tmps) = true) {g o len cap l : Nat} (x y : Operand) (ho : op.op = .slice 32 x (some y) none none) (hx : A.eval x = .slice (some ⟨g, o, none⟩) len cap) (hy : A.eval y = .int .i64 (l : Int))
    (hl : l ≤ len) (hK : wpList Try.prog ops Q rest (A.put op.dst (.slice (some ⟨g, subO o cap l, none⟩) (len - l) (cap - l))) w) : wpList Try.prog ops Q (op :: rest) A w :=
  wpList_met hw fun _ hk => by
    unfold Oper.wp
    have : (execOp A.eval op).run Try.prog w = .ok (.value (.slice (some ⟨g, subO o cap l, none⟩) (len - l) (cap - l))) w := by
      unfold execOp
      simp only [ho, Option.map_some, Option.map_none, hx, hy, Sem.run_bind, run_subRl g o len cap l hl w, Result.andThen_ok]
      rfl
    rw [this]
    exact hk _ _ hK
end Go.Proofs.Ytpbmjfjnmcpieaa
