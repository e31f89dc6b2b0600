/- What the walk's rules ask of the program's types (printed by gen_types.py). -/
import Derived.Test.YtnnbnjanekibpaaProg
import Derived.Test.YtnnbnjanekibpaaSep
namespace Go.Proofs.Ytnnbnjanekibpaa
open Go.RowKit


theorem ag_op : AggN Try.prog 108 2 := .mk Try.underlying108 rfl (by kernel_rfl)
theorem z_op : ZeroT Try.prog 108 [.int .i64 0, .int .i64 0] := ⟨.agg #[.int .i64 0, .int .i64 0], rfl, fun _ => by kernel_rfl⟩

theorem ag_point : AggN Try.prog 88 2 := .mk Try.underlying88 rfl (by kernel_rfl)
theorem z_point : ZeroT Try.prog 88 [.int .i64 0, .int .i64 0] := ⟨.agg #[.int .i64 0, .int .i64 0], rfl, fun _ => by kernel_rfl⟩

theorem ag_in : AggN Try.prog 91 3 := .mk Try.underlying91 rfl (by kernel_rfl)
theorem z_in : ZeroT Try.prog 91 [.int .i64 0, .int .i64 0, .slice none 0 0] := ⟨.agg #[.int .i64 0, .int .i64 0, .slice none 0 0], rfl, fun _ => by kernel_rfl⟩

theorem ag_out : AggN Try.prog 98 2 := .mk Try.underlying98 rfl (by kernel_rfl)
theorem z_out : ZeroT Try.prog 98 [.int .i64 0, .slice none 0 0] := ⟨.agg #[.int .i64 0, .slice none 0 0], rfl, fun _ => by kernel_rfl⟩

theorem ag_tx : AggN Try.prog 81 3 := .mk Try.underlying81 rfl (by kernel_rfl)
theorem z_tx : ZeroT Try.prog 81 [.int .i64 0, .slice none 0 0, .slice none 0 0] := ⟨.agg #[.int .i64 0, .slice none 0 0, .slice none 0 0], rfl, fun _ => by kernel_rfl⟩

theorem ag_book : AggN Try.prog 39 1 := .mk Try.underlying39 rfl (by kernel_rfl)
theorem z_book : ZeroT Try.prog 39 [.slice none 0 0] := ⟨.agg #[.slice none 0 0], rfl, fun _ => by kernel_rfl⟩

theorem ag_coin : AggN Try.prog 100 6 := .mk Try.underlying100 rfl (by kernel_rfl)
theorem z_coin : ZeroT Try.prog 100 [.int .i64 0, .int .i64 0, .int .i64 0, .slice none 0 0, .int .i64 0, .bool false] := ⟨.agg #[.int .i64 0, .int .i64 0, .int .i64 0, .slice none 0 0, .int .i64 0, .bool false], rfl, fun _ => by kernel_rfl⟩

theorem ag_undo : AggN Try.prog 83 1 := .mk Try.underlying83 rfl (by kernel_rfl)
theorem z_undo : ZeroT Try.prog 83 [.slice none 0 0] := ⟨.agg #[.slice none 0 0], rfl, fun _ => by kernel_rfl⟩

theorem ag_block : AggN Try.prog 66 5 := .mk Try.underlying66 rfl (by kernel_rfl)
theorem z_block : ZeroT Try.prog 66 [.int .i64 0, .int .i64 0, .int .i64 0, .int .i64 0, .slice none 0 0] := ⟨.agg #[.int .i64 0, .int .i64 0, .int .i64 0, .int .i64 0, .slice none 0 0], rfl, fun _ => by kernel_rfl⟩

theorem ag_tree : AggN Try.prog 56 2 := .mk Try.underlying56 rfl (by kernel_rfl)
theorem z_tree : ZeroT Try.prog 56 [.slice none 0 0, .slice none 0 0] := ⟨.agg #[.slice none 0 0, .slice none 0 0], rfl, fun _ => by kernel_rfl⟩













theorem one_int : OneT Try.prog 3 := .mk Try.underlying3 rfl (by kernel_rfl)
theorem z_int : ZeroT Try.prog 3 [.int .i64 0] := ⟨.int .i64 0, rfl, fun _ => by kernel_rfl⟩

theorem one_str : OneT Try.prog 9 := .mk Try.underlying9 rfl (by kernel_rfl)
theorem z_str : ZeroT Try.prog 9 [.string ⟨#[]⟩] := ⟨.string ⟨#[]⟩, rfl, fun _ => by kernel_rfl⟩

theorem one_bool : OneT Try.prog 4 := .mk Try.underlying4 rfl (by kernel_rfl)
theorem z_bool : ZeroT Try.prog 4 [.bool false] := ⟨.bool false, rfl, fun _ => by kernel_rfl⟩

theorem one_errno : OneT Try.prog 22 := .mk Try.underlying22 rfl (by kernel_rfl)
theorem z_errno : ZeroT Try.prog 22 [.int .i64 0] := ⟨.int .i64 0, rfl, fun _ => by kernel_rfl⟩

theorem one_sop : OneT Try.prog 89 := .mk Try.underlying89 rfl (by kernel_rfl)
theorem sl_op : SliceT Try.prog 89 108 2 16 := .mk Try.underlying89 (by kernel_rfl)

theorem one_spoint : OneT Try.prog 167 := .mk Try.underlying167 rfl (by kernel_rfl)
theorem sl_point : SliceT Try.prog 167 88 2 16 := .mk Try.underlying167 (by kernel_rfl)

theorem one_sin : OneT Try.prog 78 := .mk Try.underlying78 rfl (by kernel_rfl)
theorem sl_in : SliceT Try.prog 78 91 3 40 := .mk Try.underlying78 (by kernel_rfl)

theorem one_sout : OneT Try.prog 79 := .mk Try.underlying79 rfl (by kernel_rfl)
theorem sl_out : SliceT Try.prog 79 98 2 32 := .mk Try.underlying79 (by kernel_rfl)

theorem one_stx : OneT Try.prog 64 := .mk Try.underlying64 rfl (by kernel_rfl)
theorem sl_tx : SliceT Try.prog 64 81 3 56 := .mk Try.underlying64 (by kernel_rfl)




theorem one_scoin : OneT Try.prog 77 := .mk Try.underlying77 rfl (by kernel_rfl)
theorem sl_coin : SliceT Try.prog 77 100 6 64 := .mk Try.underlying77 (by kernel_rfl)




theorem one_sblock : OneT Try.prog 54 := .mk Try.underlying54 rfl (by kernel_rfl)
theorem sl_block : SliceT Try.prog 54 66 5 56 := .mk Try.underlying54 (by kernel_rfl)
















theorem one_sint : OneT Try.prog 24 := .mk Try.underlying24 rfl (by kernel_rfl)
theorem sl_int : SliceT Try.prog 24 3 1 8 := .mk Try.underlying24 (by kernel_rfl)

theorem one_sstr : OneT Try.prog 37 := .mk Try.underlying37 rfl (by kernel_rfl)
theorem sl_str : SliceT Try.prog 37 9 1 16 := .mk Try.underlying37 (by kernel_rfl)

theorem one_of {t : Nat} (h : [3, 22, 4, 9, 89, 167, 78, 79, 64, 77, 54, 24, 37].contains t = true) : OneT Try.prog t := by
  have h' := List.contains_iff_mem.1 h
  simp only [List.mem_cons, List.not_mem_nil, or_false] at h'
  rcases h' with rfl | rfl | rfl | rfl | rfl | rfl | rfl | rfl | rfl | rfl | rfl | rfl | rfl
  · exact one_int
  · exact one_errno
  · exact one_bool
  · exact one_str
  · exact one_sop
  · exact one_spoint
  · exact one_sin
  · exact one_sout
  · exact one_stx
  · exact one_scoin
  · exact one_sblock
  · exact one_sint
  · exact one_sstr
theorem agg_of {t n : Nat} (h : [(108, 2), (88, 2), (91, 3), (98, 2), (81, 3), (39, 1), (100, 6), (83, 1), (66, 5), (56, 2)].contains (t, n) = true) : AggN Try.prog t n := by
  have h' := List.contains_iff_mem.1 h
  simp only [List.mem_cons, List.not_mem_nil, or_false, Prod.mk.injEq] at h'
  rcases h' with ⟨rfl, rfl⟩ | ⟨rfl, rfl⟩ | ⟨rfl, rfl⟩ | ⟨rfl, rfl⟩ | ⟨rfl, rfl⟩ | ⟨rfl, rfl⟩ | ⟨rfl, rfl⟩ | ⟨rfl, rfl⟩ | ⟨rfl, rfl⟩ | ⟨rfl, rfl⟩
  · exact ag_op
  · exact ag_point
  · exact ag_in
  · exact ag_out
  · exact ag_tx
  · exact ag_book
  · exact ag_coin
  · exact ag_undo
  · exact ag_block
  · exact ag_tree
end Go.Proofs.Ytnnbnjanekibpaa
