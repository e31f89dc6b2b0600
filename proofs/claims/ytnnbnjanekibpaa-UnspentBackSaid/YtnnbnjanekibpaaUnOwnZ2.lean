/- Own texts, put together by wip/bundle.py: VL1, VL2, VL3, VRow, VDel, VIns, VU8. -/
import Derived.Laws.IdiomCopy
import Derived.Lib.AppendZerosOnto
import Derived.Deep.RegionLaw
import Derived.Lib.Hide
import Derived.Laws.Externs
import Derived.Laws.NewBlocks
import Derived.Test.YtnnbnjanekibpaaUnOwnB
import Derived.Test.YtnnbnjanekibpaaUnOwnR
import Derived.Test.YtnnbnjanekibpaaUnOwnV2
import Derived.Test.YtnnbnjanekibpaaUnOwnZ1
namespace Go.Proofs.Ytnnbnjanekibpaa
open Go.RowKit
set_option linter.unusedVariables false
set_option linter.unusedSimpArgs false
set_option maxRecDepth 100000
set_option maxHeartbeats 4000000
attribute [local irreducible] specOf spD ordP
noncomputable def sp_lockBit : Spec := spD (fun _ : Bool => True) fun b => bitI b
noncomputable def sp_lockMix : Spec := spD Fits mixI
noncomputable def sp_mAdd : Spec := spD (fun x : Int × Int => Fits x.1 ∧ Fits x.2) fun x => x.1 + x.2
noncomputable def sp_mSub : Spec := spD (fun x : Int × Int => Fits x.1 ∧ Fits x.2) fun x => x.1 - x.2
noncomputable def sp_mSame : Spec := spD (fun _ : Int × Int => True) fun x => bitI (decide (x.1 = x.2))
noncomputable def sp_mLess : Spec := spD (fun _ : Int × Int => True) fun x => bitI (decide (x.1 < x.2))
noncomputable def sp_mAnd : Spec := spD (fun _ : Int × Int => True) fun x => bitI (decide (x.1 ≠ 0) && decide (x.2 ≠ 0))
noncomputable def sp_mNot : Spec := spD (fun _ : Int => True) fun x => bitI (decide (x = 0))
theorem sp_lockBit_at (b : Bool) : sp_lockBit [.b b] = some [I (bitI b)] := spD_at (f := fun b => bitI b) b trivial
theorem sp_lockMix_at (n : Int) (h : Fits n) : sp_lockMix [I n] = some [I (mixI n)] := spD_at (f := mixI) n h
theorem sp_mAdd_at (a b : Int) (h : Fits a ∧ Fits b) : sp_mAdd [I a, I b] = some [I (a + b)] := spD_at (p := fun x : Int × Int => Fits x.1 ∧ Fits x.2) (f := fun x : Int × Int => x.1 + x.2) (a, b) h
theorem sp_mSub_at (a b : Int) (h : Fits a ∧ Fits b) : sp_mSub [I a, I b] = some [I (a - b)] := spD_at (p := fun x : Int × Int => Fits x.1 ∧ Fits x.2) (f := fun x : Int × Int => x.1 - x.2) (a, b) h
theorem sp_mSame_at (a b : Int) : sp_mSame [I a, I b] = some [I (bitI (decide (a = b)))] := spD_at (f := fun x : Int × Int => bitI (decide (x.1 = x.2))) (a, b) trivial
theorem sp_mLess_at (a b : Int) : sp_mLess [I a, I b] = some [I (bitI (decide (a < b)))] := spD_at (f := fun x : Int × Int => bitI (decide (x.1 < x.2))) (a, b) trivial
theorem sp_mAnd_at (a b : Int) : sp_mAnd [I a, I b] = some [I (bitI (decide (a ≠ 0) && decide (b ≠ 0)))] := spD_at (f := fun x : Int × Int => bitI (decide (x.1 ≠ 0) && decide (x.2 ≠ 0))) (a, b) trivial
theorem sp_mNot_at (a : Int) : sp_mNot [I a] = some [I (bitI (decide (a = 0)))] := spD_at (f := fun x : Int => bitI (decide (x = 0))) a trivial
def t_mAdd : T :=
  .lets [.bin .add (.v 0) (.v 1)] [] (.ret [.v 2])
def t_mSub : T :=
  .lets [.bin .sub (.v 0) (.v 1)] [] (.ret [.v 2])
def t_mSame : T :=
  .lets [.bin .eql (.v 0) (.v 1)] [] (.lets [.call 47 [.v 2] 0] [] (.ret [.v 3]))
def t_mLess : T :=
  .lets [.bin .lss (.v 0) (.v 1)] [] (.lets [.call 47 [.v 2] 0] [] (.ret [.v 3]))
def t_mAnd : T :=
  .lets [.bin .neq (.v 0) (.c (.i .i64 0))] [] (.ite (.v 2) (.lets [.bin .neq (.v 1) (.c (.i .i64 0))] [] (.lets [.call 47 [.v 3] 0] [] (.ret [.v 4]))) (.lets [.call 47 [.c (.b
  false)] 0] [] (.ret [.v 3])))
def t_mNot : T :=
  .lets [.bin .eql (.v 0) (.c (.i .i64 0))] [] (.lets [.call 47 [.v 1] 0] [] (.ret [.v 2]))
def t_lockBit : T :=
  .ite (.v 0) (.ret [.c (.i .i64 1)]) (.ret [.c (.i .i64 0)])
def t_lockMix_0 : T :=
  .lets [.bin .add (.v 5) (.c (.i .i64 104729))] [] (.lets [.bin .rem (.v 6) (.c (.i .i64 1000003))] [] (.lets [.bin .add (.v 3) (.c (.i .i64 1))] [] (.again 0 [.v 7, .v 8])))
def t_lockMix_1 : T :=
  .lets [.bin .lss (.v 3) (.c (.i .i64 3))] [] (.ite (.v 4) (.lets [.bin .mul (.v 2) (.c (.i .i64 7919))] [] t_lockMix_0) (.lets [.bin .rem (.v 2) (.c (.i .i64 1000001))] [] (.ret [.v
  5])))
def t_lockMix : T :=
  .lets [.bin .add (.v 0) (.c (.i .i64 1000000))] [] (.loop [.v 1, .c (.i .i64 0)] t_lockMix_1)
theorem m_lockBit : Meets Try.prog sp_lockBit 154 ⟨[.one], [(false, [.scal])], true⟩ := by
  refine meets_fast (sp := (spsOf [])) (sigs := sigsA) (cut := []) (hints := []) (fn := Try.f154) (t := t_lockBit) (by kernel_rfl) (by kernel_rfl) (by kernel_rfl) ?_ ?_
  · exact (sig_of (L := []) trivial)
  · rintro ds rs - h
    obtain ⟨b, -, rfl, rfl⟩ := spD_some h
    clear h
    refine ⟨⟨1, ?_⟩, scalOk_1 rfl⟩
    show den _ _ t_lockBit [.b b] [] = ret (bitI b)
    unfold t_lockBit bitI
    repeat' (first | refine den_let1 (by first | exact dx_eql rfl rfl | exact dx_neq rfl rfl | exact dx_lss rfl rfl | exact dx_gtr rfl rfl | exact dx_geq rfl rfl | exact dx_leq rfl rfl | exact dx_len rfl | exact den_add rfl rfl (by omega) | exact den_sub rfl rfl (by omega) | exact dx_idx rfl rfl (by omega) (by first | assumption | exact hx) rfl | exact dx_not rfl | exact dx_len0 rfl | exact dx_eqS rfl rfl | exact dx_neS rfl rfl | exact dx_eqB rfl rfl | exact dx_neB rfl rfl | exact dx_eqP rfl rfl rfl rfl | exact dx_neP rfl rfl rfl rfl | exact dx_neg rfl (by omega) | exact dx_cutl rfl rfl (by omega) (by omega) (by assumption) | exact den_mk (r := [[I _]]) rfl rfl (by simp) | exact dx_sel rfl rfl (by omega) rfl | exact dx_mn rfl rfl | exact dx_slen rfl | exact dx_app1 (fun _ => rfl) rfl rfl (by first | omega | (simp only [List.length_append, List.length_cons, List.length_nil]; omega))) ?_ | refine den_ck (by exact dx_inr rfl rfl (by omega) (by omega)) ?_ | refine den_lets (by first | exact dx_el rfl rfl (by omega) (by first | assumption | exact hx) (by rfl) | exact denXs_cons (dx_idx rfl rfl (by omega) (by first | assumption | exact hx) rfl) (denXs_cons (dx_idx rfl rfl (by omega) (by first | assumption | exact hx) rfl) denXs_nil)) ?_ (by simp only [eCoin, eTx, eIn, eOut, eOp, ePoint, eInt, eStr, eBlock, eTree, eBook, eUndo, eBool, List.cons_append, List.nil_append]; try exact rfl) | exact den_ret rfl rfl | refine den_ifR rfl (by with_reducible rfl) (fun h => ?_) (fun h => ?_) | refine den_ifB rfl (by with_reducible rfl) (fun h => ?_) (fun h => ?_) | refine den_ifC rfl (by with_reducible rfl) (fun h => ?_) (fun h => ?_) | refine den_ifBn rfl (by with_reducible rfl) (fun h => ?_) (fun h => ?_) | refine den_ifF rfl (by with_reducible rfl) (fun h => ?_) (fun h => ?_) | refine den_ifFn rfl (by with_reducible rfl) (fun h => ?_) (fun h => ?_) | refine den_ifAndOr rfl (by with_reducible rfl) (fun h => ?_) (fun h => ?_) | refine den_ifOrAnd rfl (by with_reducible rfl) (fun h => ?_) (fun h => ?_) | refine den_ifAnd rfl (by with_reducible rfl) (fun h => ?_) (fun h => ?_) | refine den_ifOr rfl (by with_reducible rfl) (fun h => ?_) (fun h => ?_) | refine den_band rfl (by with_reducible rfl) (fun h => ?_) (fun h => ?_) | refine den_bor rfl (by with_reducible rfl) (fun h => ?_) (fun h => ?_) | refine den_T rfl (by first | assumption | omega) ?_ | refine den_F rfl (by first | assumption | omega) ?_ | refine den_t rfl ?_ | refine den_f rfl ?_)
theorem m_mAdd : Meets Try.prog sp_mAdd 151 ⟨[.one, .one], [(false, [.scal])], true⟩ := by
  refine meets_fast (sp := (spsOf [])) (sigs := sigsA) (cut := []) (hints := []) (fn := Try.f151) (t := t_mAdd) (by kernel_rfl) (by kernel_rfl) (by kernel_rfl) ?_ ?_
  · exact (sig_of (L := []) trivial)
  · rintro ds rs - h
    obtain ⟨⟨a, b⟩, ⟨⟨h1, h2⟩, h3, h4⟩, rfl, rfl⟩ := spD_some h
    clear h
    simp only at h1 h2 h3 h4
    refine ⟨⟨1, ?_⟩, scalOk_1 rfl⟩
    show den _ _ t_mAdd [I a, I b] [] = ret (a + b)
    unfold t_mAdd
    repeat' (first | refine den_let1 (by first | exact dx_eql rfl rfl | exact dx_neq rfl rfl | exact dx_lss rfl rfl | exact dx_gtr rfl rfl | exact dx_geq rfl rfl | exact dx_leq rfl rfl | exact dx_len rfl | exact den_add rfl rfl (by omega) | exact den_sub rfl rfl (by omega) | exact dx_idx rfl rfl (by omega) (by first | assumption | exact hx) rfl | exact dx_not rfl | exact dx_len0 rfl | exact dx_eqS rfl rfl | exact dx_neS rfl rfl | exact dx_eqB rfl rfl | exact dx_neB rfl rfl | exact dx_eqP rfl rfl rfl rfl | exact dx_neP rfl rfl rfl rfl | exact dx_neg rfl (by omega) | exact dx_cutl rfl rfl (by omega) (by omega) (by assumption) | exact den_mk (r := [[I _]]) rfl rfl (by simp) | exact dx_sel rfl rfl (by omega) rfl | exact dx_mn rfl rfl | exact dx_slen rfl | exact dx_app1 (fun _ => rfl) rfl rfl (by first | omega | (simp only [List.length_append, List.length_cons, List.length_nil]; omega))) ?_ | refine den_ck (by exact dx_inr rfl rfl (by omega) (by omega)) ?_ | refine den_lets (by first | exact dx_el rfl rfl (by omega) (by first | assumption | exact hx) (by rfl) | exact denXs_cons (dx_idx rfl rfl (by omega) (by first | assumption | exact hx) rfl) (denXs_cons (dx_idx rfl rfl (by omega) (by first | assumption | exact hx) rfl) denXs_nil)) ?_ (by simp only [eCoin, eTx, eIn, eOut, eOp, ePoint, eInt, eStr, eBlock, eTree, eBook, eUndo, eBool, List.cons_append, List.nil_append]; try exact rfl) | exact den_ret rfl rfl | refine den_ifR rfl (by with_reducible rfl) (fun h => ?_) (fun h => ?_) | refine den_ifB rfl (by with_reducible rfl) (fun h => ?_) (fun h => ?_) | refine den_ifC rfl (by with_reducible rfl) (fun h => ?_) (fun h => ?_) | refine den_ifBn rfl (by with_reducible rfl) (fun h => ?_) (fun h => ?_) | refine den_ifF rfl (by with_reducible rfl) (fun h => ?_) (fun h => ?_) | refine den_ifFn rfl (by with_reducible rfl) (fun h => ?_) (fun h => ?_) | refine den_ifAndOr rfl (by with_reducible rfl) (fun h => ?_) (fun h => ?_) | refine den_ifOrAnd rfl (by with_reducible rfl) (fun h => ?_) (fun h => ?_) | refine den_ifAnd rfl (by with_reducible rfl) (fun h => ?_) (fun h => ?_) | refine den_ifOr rfl (by with_reducible rfl) (fun h => ?_) (fun h => ?_) | refine den_band rfl (by with_reducible rfl) (fun h => ?_) (fun h => ?_) | refine den_bor rfl (by with_reducible rfl) (fun h => ?_) (fun h => ?_) | refine den_T rfl (by first | assumption | omega) ?_ | refine den_F rfl (by first | assumption | omega) ?_ | refine den_t rfl ?_ | refine den_f rfl ?_)
theorem m_mSub : Meets Try.prog sp_mSub 152 ⟨[.one, .one], [(false, [.scal])], true⟩ := by
  refine meets_fast (sp := (spsOf [])) (sigs := sigsA) (cut := []) (hints := []) (fn := Try.f152) (t := t_mSub) (by kernel_rfl) (by kernel_rfl) (by kernel_rfl) ?_ ?_
  · exact (sig_of (L := []) trivial)
  · rintro ds rs - h
    obtain ⟨⟨a, b⟩, ⟨⟨h1, h2⟩, h3, h4⟩, rfl, rfl⟩ := spD_some h
    clear h
    simp only at h1 h2 h3 h4
    refine ⟨⟨1, ?_⟩, scalOk_1 rfl⟩
    show den _ _ t_mSub [I a, I b] [] = ret (a - b)
    unfold t_mSub
    repeat' (first | refine den_let1 (by first | exact dx_eql rfl rfl | exact dx_neq rfl rfl | exact dx_lss rfl rfl | exact dx_gtr rfl rfl | exact dx_geq rfl rfl | exact dx_leq rfl rfl | exact dx_len rfl | exact den_add rfl rfl (by omega) | exact den_sub rfl rfl (by omega) | exact dx_idx rfl rfl (by omega) (by first | assumption | exact hx) rfl | exact dx_not rfl | exact dx_len0 rfl | exact dx_eqS rfl rfl | exact dx_neS rfl rfl | exact dx_eqB rfl rfl | exact dx_neB rfl rfl | exact dx_eqP rfl rfl rfl rfl | exact dx_neP rfl rfl rfl rfl | exact dx_neg rfl (by omega) | exact dx_cutl rfl rfl (by omega) (by omega) (by assumption) | exact den_mk (r := [[I _]]) rfl rfl (by simp) | exact dx_sel rfl rfl (by omega) rfl | exact dx_mn rfl rfl | exact dx_slen rfl | exact dx_app1 (fun _ => rfl) rfl rfl (by first | omega | (simp only [List.length_append, List.length_cons, List.length_nil]; omega))) ?_ | refine den_ck (by exact dx_inr rfl rfl (by omega) (by omega)) ?_ | refine den_lets (by first | exact dx_el rfl rfl (by omega) (by first | assumption | exact hx) (by rfl) | exact denXs_cons (dx_idx rfl rfl (by omega) (by first | assumption | exact hx) rfl) (denXs_cons (dx_idx rfl rfl (by omega) (by first | assumption | exact hx) rfl) denXs_nil)) ?_ (by simp only [eCoin, eTx, eIn, eOut, eOp, ePoint, eInt, eStr, eBlock, eTree, eBook, eUndo, eBool, List.cons_append, List.nil_append]; try exact rfl) | exact den_ret rfl rfl | refine den_ifR rfl (by with_reducible rfl) (fun h => ?_) (fun h => ?_) | refine den_ifB rfl (by with_reducible rfl) (fun h => ?_) (fun h => ?_) | refine den_ifC rfl (by with_reducible rfl) (fun h => ?_) (fun h => ?_) | refine den_ifBn rfl (by with_reducible rfl) (fun h => ?_) (fun h => ?_) | refine den_ifF rfl (by with_reducible rfl) (fun h => ?_) (fun h => ?_) | refine den_ifFn rfl (by with_reducible rfl) (fun h => ?_) (fun h => ?_) | refine den_ifAndOr rfl (by with_reducible rfl) (fun h => ?_) (fun h => ?_) | refine den_ifOrAnd rfl (by with_reducible rfl) (fun h => ?_) (fun h => ?_) | refine den_ifAnd rfl (by with_reducible rfl) (fun h => ?_) (fun h => ?_) | refine den_ifOr rfl (by with_reducible rfl) (fun h => ?_) (fun h => ?_) | refine den_band rfl (by with_reducible rfl) (fun h => ?_) (fun h => ?_) | refine den_bor rfl (by with_reducible rfl) (fun h => ?_) (fun h => ?_) | refine den_T rfl (by first | assumption | omega) ?_ | refine den_F rfl (by first | assumption | omega) ?_ | refine den_t rfl ?_ | refine den_f rfl ?_)
theorem m_mSame : Meets Try.prog sp_mSame 153 ⟨[.one, .one], [(false, [.scal])], true⟩ := by
  refine meets_fast (sp := (spsOf [(47, sp_lockBit)])) (sigs := sigsA) (cut := []) (hints := []) (fn := Try.f153) (t := t_mSame) (by kernel_rfl) (by kernel_rfl) (by kernel_rfl) ?_ ?_
  · exact (sig_of (L := [(47, sp_lockBit)]) ⟨sig_at rfl m_lockBit, trivial⟩)
  · rintro ds rs - h
    obtain ⟨⟨a, b⟩, -, rfl, rfl⟩ := spD_some h
    clear h
    refine ⟨⟨1, ?_⟩, scalOk_1 rfl⟩
    show den _ _ t_mSame [I a, I b] [] = ret (bitI (decide (a = b)))
    unfold t_mSame
    repeat' (first | refine den_let1 (by first | exact dx_eql rfl rfl | exact dx_neq rfl rfl | exact dx_lss rfl rfl | exact dx_gtr rfl rfl | exact dx_geq rfl rfl | exact dx_leq rfl rfl | exact dx_len rfl | exact den_add rfl rfl (by omega) | exact den_sub rfl rfl (by omega) | exact dx_idx rfl rfl (by omega) (by first | assumption | exact hx) rfl | exact den_call rfl (sp_lockBit_at _) rfl | exact dx_not rfl | exact dx_len0 rfl | exact dx_eqS rfl rfl | exact dx_neS rfl rfl | exact dx_eqB rfl rfl | exact dx_neB rfl rfl | exact dx_eqP rfl rfl rfl rfl | exact dx_neP rfl rfl rfl rfl | exact dx_neg rfl (by omega) | exact dx_cutl rfl rfl (by omega) (by omega) (by assumption) | exact den_mk (r := [[I _]]) rfl rfl (by simp) | exact dx_sel rfl rfl (by omega) rfl | exact dx_mn rfl rfl | exact dx_slen rfl | exact dx_app1 (fun _ => rfl) rfl rfl (by first | omega | (simp only [List.length_append, List.length_cons, List.length_nil]; omega))) ?_ | refine den_ck (by exact dx_inr rfl rfl (by omega) (by omega)) ?_ | refine den_lets (by first | exact dx_el rfl rfl (by omega) (by first | assumption | exact hx) (by rfl) | exact dx_calls rfl (sp_lockBit_at _) (by rfl) | exact denXs_cons (dx_idx rfl rfl (by omega) (by first | assumption | exact hx) rfl) (denXs_cons (dx_idx rfl rfl (by omega) (by first | assumption | exact hx) rfl) denXs_nil)) ?_ (by simp only [eCoin, eTx, eIn, eOut, eOp, ePoint, eInt, eStr, eBlock, eTree, eBook, eUndo, eBool, List.cons_append, List.nil_append]; try exact rfl) | exact den_ret rfl rfl | refine den_ifR rfl (by with_reducible rfl) (fun h => ?_) (fun h => ?_) | refine den_ifB rfl (by with_reducible rfl) (fun h => ?_) (fun h => ?_) | refine den_ifC rfl (by with_reducible rfl) (fun h => ?_) (fun h => ?_) | refine den_ifBn rfl (by with_reducible rfl) (fun h => ?_) (fun h => ?_) | refine den_ifF rfl (by with_reducible rfl) (fun h => ?_) (fun h => ?_) | refine den_ifFn rfl (by with_reducible rfl) (fun h => ?_) (fun h => ?_) | refine den_ifAndOr rfl (by with_reducible rfl) (fun h => ?_) (fun h => ?_) | refine den_ifOrAnd rfl (by with_reducible rfl) (fun h => ?_) (fun h => ?_) | refine den_ifAnd rfl (by with_reducible rfl) (fun h => ?_) (fun h => ?_) | refine den_ifOr rfl (by with_reducible rfl) (fun h => ?_) (fun h => ?_) | refine den_band rfl (by with_reducible rfl) (fun h => ?_) (fun h => ?_) | refine den_bor rfl (by with_reducible rfl) (fun h => ?_) (fun h => ?_) | refine den_T rfl (by first | assumption | omega) ?_ | refine den_F rfl (by first | assumption | omega) ?_ | refine den_t rfl ?_ | refine den_f rfl ?_)
theorem m_mLess : Meets Try.prog sp_mLess 155 ⟨[.one, .one], [(false, [.scal])], true⟩ := by
  refine meets_fast (sp := (spsOf [(47, sp_lockBit)])) (sigs := sigsA) (cut := []) (hints := []) (fn := Try.f155) (t := t_mLess) (by kernel_rfl) (by kernel_rfl) (by kernel_rfl) ?_ ?_
  · exact (sig_of (L := [(47, sp_lockBit)]) ⟨sig_at rfl m_lockBit, trivial⟩)
  · rintro ds rs - h
    obtain ⟨⟨a, b⟩, -, rfl, rfl⟩ := spD_some h
    clear h
    refine ⟨⟨1, ?_⟩, scalOk_1 rfl⟩
    show den _ _ t_mLess [I a, I b] [] = ret (bitI (decide (a < b)))
    unfold t_mLess
    repeat' (first | refine den_let1 (by first | exact dx_eql rfl rfl | exact dx_neq rfl rfl | exact dx_lss rfl rfl | exact dx_gtr rfl rfl | exact dx_geq rfl rfl | exact dx_leq rfl rfl | exact dx_len rfl | exact den_add rfl rfl (by omega) | exact den_sub rfl rfl (by omega) | exact dx_idx rfl rfl (by omega) (by first | assumption | exact hx) rfl | exact den_call rfl (sp_lockBit_at _) rfl | exact dx_not rfl | exact dx_len0 rfl | exact dx_eqS rfl rfl | exact dx_neS rfl rfl | exact dx_eqB rfl rfl | exact dx_neB rfl rfl | exact dx_eqP rfl rfl rfl rfl | exact dx_neP rfl rfl rfl rfl | exact dx_neg rfl (by omega) | exact dx_cutl rfl rfl (by omega) (by omega) (by assumption) | exact den_mk (r := [[I _]]) rfl rfl (by simp) | exact dx_sel rfl rfl (by omega) rfl | exact dx_mn rfl rfl | exact dx_slen rfl | exact dx_app1 (fun _ => rfl) rfl rfl (by first | omega | (simp only [List.length_append, List.length_cons, List.length_nil]; omega))) ?_ | refine den_ck (by exact dx_inr rfl rfl (by omega) (by omega)) ?_ | refine den_lets (by first | exact dx_el rfl rfl (by omega) (by first | assumption | exact hx) (by rfl) | exact dx_calls rfl (sp_lockBit_at _) (by rfl) | exact denXs_cons (dx_idx rfl rfl (by omega) (by first | assumption | exact hx) rfl) (denXs_cons (dx_idx rfl rfl (by omega) (by first | assumption | exact hx) rfl) denXs_nil)) ?_ (by simp only [eCoin, eTx, eIn, eOut, eOp, ePoint, eInt, eStr, eBlock, eTree, eBook, eUndo, eBool, List.cons_append, List.nil_append]; try exact rfl) | exact den_ret rfl rfl | refine den_ifR rfl (by with_reducible rfl) (fun h => ?_) (fun h => ?_) | refine den_ifB rfl (by with_reducible rfl) (fun h => ?_) (fun h => ?_) | refine den_ifC rfl (by with_reducible rfl) (fun h => ?_) (fun h => ?_) | refine den_ifBn rfl (by with_reducible rfl) (fun h => ?_) (fun h => ?_) | refine den_ifF rfl (by with_reducible rfl) (fun h => ?_) (fun h => ?_) | refine den_ifFn rfl (by with_reducible rfl) (fun h => ?_) (fun h => ?_) | refine den_ifAndOr rfl (by with_reducible rfl) (fun h => ?_) (fun h => ?_) | refine den_ifOrAnd rfl (by with_reducible rfl) (fun h => ?_) (fun h => ?_) | refine den_ifAnd rfl (by with_reducible rfl) (fun h => ?_) (fun h => ?_) | refine den_ifOr rfl (by with_reducible rfl) (fun h => ?_) (fun h => ?_) | refine den_band rfl (by with_reducible rfl) (fun h => ?_) (fun h => ?_) | refine den_bor rfl (by with_reducible rfl) (fun h => ?_) (fun h => ?_) | refine den_T rfl (by first | assumption | omega) ?_ | refine den_F rfl (by first | assumption | omega) ?_ | refine den_t rfl ?_ | refine den_f rfl ?_)
theorem m_mNot : Meets Try.prog sp_mNot 157 ⟨[.one], [(false, [.scal])], true⟩ := by
  refine meets_fast (sp := (spsOf [(47, sp_lockBit)])) (sigs := sigsA) (cut := []) (hints := []) (fn := Try.f157) (t := t_mNot) (by kernel_rfl) (by kernel_rfl) (by kernel_rfl) ?_ ?_
  · exact (sig_of (L := [(47, sp_lockBit)]) ⟨sig_at rfl m_lockBit, trivial⟩)
  · rintro ds rs - h
    obtain ⟨a, -, rfl, rfl⟩ := spD_some h
    clear h
    refine ⟨⟨1, ?_⟩, scalOk_1 rfl⟩
    show den _ _ t_mNot [I a] [] = ret (bitI (decide (a = 0)))
    unfold t_mNot
    repeat' (first | refine den_let1 (by first | exact dx_eql rfl rfl | exact dx_neq rfl rfl | exact dx_lss rfl rfl | exact dx_gtr rfl rfl | exact dx_geq rfl rfl | exact dx_leq rfl rfl | exact dx_len rfl | exact den_add rfl rfl (by omega) | exact den_sub rfl rfl (by omega) | exact dx_idx rfl rfl (by omega) (by first | assumption | exact hx) rfl | exact den_call rfl (sp_lockBit_at _) rfl | exact dx_not rfl | exact dx_len0 rfl | exact dx_eqS rfl rfl | exact dx_neS rfl rfl | exact dx_eqB rfl rfl | exact dx_neB rfl rfl | exact dx_eqP rfl rfl rfl rfl | exact dx_neP rfl rfl rfl rfl | exact dx_neg rfl (by omega) | exact dx_cutl rfl rfl (by omega) (by omega) (by assumption) | exact den_mk (r := [[I _]]) rfl rfl (by simp) | exact dx_sel rfl rfl (by omega) rfl | exact dx_mn rfl rfl | exact dx_slen rfl | exact dx_app1 (fun _ => rfl) rfl rfl (by first | omega | (simp only [List.length_append, List.length_cons, List.length_nil]; omega))) ?_ | refine den_ck (by exact dx_inr rfl rfl (by omega) (by omega)) ?_ | refine den_lets (by first | exact dx_el rfl rfl (by omega) (by first | assumption | exact hx) (by rfl) | exact dx_calls rfl (sp_lockBit_at _) (by rfl) | exact denXs_cons (dx_idx rfl rfl (by omega) (by first | assumption | exact hx) rfl) (denXs_cons (dx_idx rfl rfl (by omega) (by first | assumption | exact hx) rfl) denXs_nil)) ?_ (by simp only [eCoin, eTx, eIn, eOut, eOp, ePoint, eInt, eStr, eBlock, eTree, eBook, eUndo, eBool, List.cons_append, List.nil_append]; try exact rfl) | exact den_ret rfl rfl | refine den_ifR rfl (by with_reducible rfl) (fun h => ?_) (fun h => ?_) | refine den_ifB rfl (by with_reducible rfl) (fun h => ?_) (fun h => ?_) | refine den_ifC rfl (by with_reducible rfl) (fun h => ?_) (fun h => ?_) | refine den_ifBn rfl (by with_reducible rfl) (fun h => ?_) (fun h => ?_) | refine den_ifF rfl (by with_reducible rfl) (fun h => ?_) (fun h => ?_) | refine den_ifFn rfl (by with_reducible rfl) (fun h => ?_) (fun h => ?_) | refine den_ifAndOr rfl (by with_reducible rfl) (fun h => ?_) (fun h => ?_) | refine den_ifOrAnd rfl (by with_reducible rfl) (fun h => ?_) (fun h => ?_) | refine den_ifAnd rfl (by with_reducible rfl) (fun h => ?_) (fun h => ?_) | refine den_ifOr rfl (by with_reducible rfl) (fun h => ?_) (fun h => ?_) | refine den_band rfl (by with_reducible rfl) (fun h => ?_) (fun h => ?_) | refine den_bor rfl (by with_reducible rfl) (fun h => ?_) (fun h => ?_) | refine den_T rfl (by first | assumption | omega) ?_ | refine den_F rfl (by first | assumption | omega) ?_ | refine den_t rfl ?_ | refine den_f rfl ?_)
theorem m_mAnd : Meets Try.prog sp_mAnd 156 ⟨[.one, .one], [(false, [.scal])], true⟩ := by
  refine meets_fast (sp := (spsOf [(47, sp_lockBit)])) (sigs := sigsA) (cut := []) (hints := []) (fn := Try.f156) (t := t_mAnd) (by kernel_rfl) (by kernel_rfl) (by kernel_rfl) ?_ ?_
  · exact (sig_of (L := [(47, sp_lockBit)]) ⟨sig_at rfl m_lockBit, trivial⟩)
  · rintro ds rs - h
    obtain ⟨⟨a, b⟩, -, rfl, rfl⟩ := spD_some h
    clear h
    refine ⟨⟨1, ?_⟩, scalOk_1 rfl⟩
    show den _ _ t_mAnd [I a, I b] [] = ret (bitI (decide (a ≠ 0) && decide (b ≠ 0)))
    unfold t_mAnd
    repeat' (first | refine den_let1 (by first | exact dx_eql rfl rfl | exact dx_neq rfl rfl | exact dx_lss rfl rfl | exact dx_gtr rfl rfl | exact dx_geq rfl rfl | exact dx_leq rfl rfl | exact dx_len rfl | exact den_add rfl rfl (by omega) | exact den_sub rfl rfl (by omega) | exact dx_idx rfl rfl (by omega) (by first | assumption | exact hx) rfl | exact den_call rfl (sp_lockBit_at _) rfl | exact dx_not rfl | exact dx_len0 rfl | exact dx_eqS rfl rfl | exact dx_neS rfl rfl | exact dx_eqB rfl rfl | exact dx_neB rfl rfl | exact dx_eqP rfl rfl rfl rfl | exact dx_neP rfl rfl rfl rfl | exact dx_neg rfl (by omega) | exact dx_cutl rfl rfl (by omega) (by omega) (by assumption) | exact den_mk (r := [[I _]]) rfl rfl (by simp) | exact dx_sel rfl rfl (by omega) rfl | exact dx_mn rfl rfl | exact dx_slen rfl | exact dx_app1 (fun _ => rfl) rfl rfl (by first | omega | (simp only [List.length_append, List.length_cons, List.length_nil]; omega))) ?_ | refine den_ck (by exact dx_inr rfl rfl (by omega) (by omega)) ?_ | refine den_lets (by first | exact dx_el rfl rfl (by omega) (by first | assumption | exact hx) (by rfl) | exact dx_calls rfl (sp_lockBit_at _) (by rfl) | exact denXs_cons (dx_idx rfl rfl (by omega) (by first | assumption | exact hx) rfl) (denXs_cons (dx_idx rfl rfl (by omega) (by first | assumption | exact hx) rfl) denXs_nil)) ?_ (by simp only [eCoin, eTx, eIn, eOut, eOp, ePoint, eInt, eStr, eBlock, eTree, eBook, eUndo, eBool, List.cons_append, List.nil_append]; try exact rfl) | exact den_ret rfl rfl | refine den_ifR rfl (by with_reducible rfl) (fun h => ?_) (fun h => ?_) | refine den_ifB rfl (by with_reducible rfl) (fun h => ?_) (fun h => ?_) | refine den_ifC rfl (by with_reducible rfl) (fun h => ?_) (fun h => ?_) | refine den_ifBn rfl (by with_reducible rfl) (fun h => ?_) (fun h => ?_) | refine den_ifF rfl (by with_reducible rfl) (fun h => ?_) (fun h => ?_) | refine den_ifFn rfl (by with_reducible rfl) (fun h => ?_) (fun h => ?_) | refine den_ifAndOr rfl (by with_reducible rfl) (fun h => ?_) (fun h => ?_) | refine den_ifOrAnd rfl (by with_reducible rfl) (fun h => ?_) (fun h => ?_) | refine den_ifAnd rfl (by with_reducible rfl) (fun h => ?_) (fun h => ?_) | refine den_ifOr rfl (by with_reducible rfl) (fun h => ?_) (fun h => ?_) | refine den_band rfl (by with_reducible rfl) (fun h => ?_) (fun h => ?_) | refine den_bor rfl (by with_reducible rfl) (fun h => ?_) (fun h => ?_) | refine den_T rfl (by first | assumption | omega) ?_ | refine den_F rfl (by first | assumption | omega) ?_ | refine den_t rfl ?_ | refine den_f rfl ?_)
    refine den_sp rfl (fun h => ?_) (fun h => ?_)
    · rw [decide_eq_true h, Bool.true_and]
      repeat' (first | refine den_let1 (by first | exact dx_eql rfl rfl | exact dx_neq rfl rfl | exact dx_lss rfl rfl | exact dx_gtr rfl rfl | exact dx_geq rfl rfl | exact dx_leq rfl rfl | exact dx_len rfl | exact den_add rfl rfl (by omega) | exact den_sub rfl rfl (by omega) | exact dx_idx rfl rfl (by omega) (by first | assumption | exact hx) rfl | exact den_call rfl (sp_lockBit_at _) rfl | exact dx_not rfl | exact dx_len0 rfl | exact dx_eqS rfl rfl | exact dx_neS rfl rfl | exact dx_eqB rfl rfl | exact dx_neB rfl rfl | exact dx_eqP rfl rfl rfl rfl | exact dx_neP rfl rfl rfl rfl | exact dx_neg rfl (by omega) | exact dx_cutl rfl rfl (by omega) (by omega) (by assumption) | exact den_mk (r := [[I _]]) rfl rfl (by simp) | exact dx_sel rfl rfl (by omega) rfl | exact dx_mn rfl rfl | exact dx_slen rfl | exact dx_app1 (fun _ => rfl) rfl rfl (by first | omega | (simp only [List.length_append, List.length_cons, List.length_nil]; omega))) ?_ | refine den_ck (by exact dx_inr rfl rfl (by omega) (by omega)) ?_ | refine den_lets (by first | exact dx_el rfl rfl (by omega) (by first | assumption | exact hx) (by rfl) | exact dx_calls rfl (sp_lockBit_at _) (by rfl) | exact denXs_cons (dx_idx rfl rfl (by omega) (by first | assumption | exact hx) rfl) (denXs_cons (dx_idx rfl rfl (by omega) (by first | assumption | exact hx) rfl) denXs_nil)) ?_ (by simp only [eCoin, eTx, eIn, eOut, eOp, ePoint, eInt, eStr, eBlock, eTree, eBook, eUndo, eBool, List.cons_append, List.nil_append]; try exact rfl) | exact den_ret rfl rfl | refine den_ifR rfl (by with_reducible rfl) (fun h => ?_) (fun h => ?_) | refine den_ifB rfl (by with_reducible rfl) (fun h => ?_) (fun h => ?_) | refine den_ifC rfl (by with_reducible rfl) (fun h => ?_) (fun h => ?_) | refine den_ifBn rfl (by with_reducible rfl) (fun h => ?_) (fun h => ?_) | refine den_ifF rfl (by with_reducible rfl) (fun h => ?_) (fun h => ?_) | refine den_ifFn rfl (by with_reducible rfl) (fun h => ?_) (fun h => ?_) | refine den_ifAndOr rfl (by with_reducible rfl) (fun h => ?_) (fun h => ?_) | refine den_ifOrAnd rfl (by with_reducible rfl) (fun h => ?_) (fun h => ?_) | refine den_ifAnd rfl (by with_reducible rfl) (fun h => ?_) (fun h => ?_) | refine den_ifOr rfl (by with_reducible rfl) (fun h => ?_) (fun h => ?_) | refine den_band rfl (by with_reducible rfl) (fun h => ?_) (fun h => ?_) | refine den_bor rfl (by with_reducible rfl) (fun h => ?_) (fun h => ?_) | refine den_T rfl (by first | assumption | omega) ?_ | refine den_F rfl (by first | assumption | omega) ?_ | refine den_t rfl ?_ | refine den_f rfl ?_)
    · rw [decide_eq_false h, Bool.false_and]
      repeat' (first | refine den_let1 (by first | exact dx_eql rfl rfl | exact dx_neq rfl rfl | exact dx_lss rfl rfl | exact dx_gtr rfl rfl | exact dx_geq rfl rfl | exact dx_leq rfl rfl | exact dx_len rfl | exact den_add rfl rfl (by omega) | exact den_sub rfl rfl (by omega) | exact dx_idx rfl rfl (by omega) (by first | assumption | exact hx) rfl | exact den_call rfl (sp_lockBit_at _) rfl | exact dx_not rfl | exact dx_len0 rfl | exact dx_eqS rfl rfl | exact dx_neS rfl rfl | exact dx_eqB rfl rfl | exact dx_neB rfl rfl | exact dx_eqP rfl rfl rfl rfl | exact dx_neP rfl rfl rfl rfl | exact dx_neg rfl (by omega) | exact dx_cutl rfl rfl (by omega) (by omega) (by assumption) | exact den_mk (r := [[I _]]) rfl rfl (by simp) | exact dx_sel rfl rfl (by omega) rfl | exact dx_mn rfl rfl | exact dx_slen rfl | exact dx_app1 (fun _ => rfl) rfl rfl (by first | omega | (simp only [List.length_append, List.length_cons, List.length_nil]; omega))) ?_ | refine den_ck (by exact dx_inr rfl rfl (by omega) (by omega)) ?_ | refine den_lets (by first | exact dx_el rfl rfl (by omega) (by first | assumption | exact hx) (by rfl) | exact dx_calls rfl (sp_lockBit_at _) (by rfl) | exact denXs_cons (dx_idx rfl rfl (by omega) (by first | assumption | exact hx) rfl) (denXs_cons (dx_idx rfl rfl (by omega) (by first | assumption | exact hx) rfl) denXs_nil)) ?_ (by simp only [eCoin, eTx, eIn, eOut, eOp, ePoint, eInt, eStr, eBlock, eTree, eBook, eUndo, eBool, List.cons_append, List.nil_append]; try exact rfl) | exact den_ret rfl rfl | refine den_ifR rfl (by with_reducible rfl) (fun h => ?_) (fun h => ?_) | refine den_ifB rfl (by with_reducible rfl) (fun h => ?_) (fun h => ?_) | refine den_ifC rfl (by with_reducible rfl) (fun h => ?_) (fun h => ?_) | refine den_ifBn rfl (by with_reducible rfl) (fun h => ?_) (fun h => ?_) | refine den_ifF rfl (by with_reducible rfl) (fun h => ?_) (fun h => ?_) | refine den_ifFn rfl (by with_reducible rfl) (fun h => ?_) (fun h => ?_) | refine den_ifAndOr rfl (by with_reducible rfl) (fun h => ?_) (fun h => ?_) | refine den_ifOrAnd rfl (by with_reducible rfl) (fun h => ?_) (fun h => ?_) | refine den_ifAnd rfl (by with_reducible rfl) (fun h => ?_) (fun h => ?_) | refine den_ifOr rfl (by with_reducible rfl) (fun h => ?_) (fun h => ?_) | refine den_band rfl (by with_reducible rfl) (fun h => ?_) (fun h => ?_) | refine den_bor rfl (by with_reducible rfl) (fun h => ?_) (fun h => ?_) | refine den_T rfl (by first | assumption | omega) ?_ | refine den_F rfl (by first | assumption | omega) ?_ | refine den_t rfl ?_ | refine den_f rfl ?_)
theorem mixStep_bd {x : Int} (h0 : 0 ≤ x) : 0 ≤ mixStep x ∧ mixStep x < 1000003 := by
  unfold mixStep
  exact ⟨Int.tmod_nonneg _ (by omega), Int.tmod_lt_of_pos _ (by omega)⟩
theorem m_lockMix : Meets Try.prog sp_lockMix 158 ⟨[.one], [(false, [.scal])], true⟩ := by
  refine meets_fast (sp := (spsOf [])) (sigs := sigsA) (cut := []) (hints := [⟨3, [.t 0, .t 5]⟩]) (fn := Try.f158) (t := t_lockMix) (by kernel_rfl) (by kernel_rfl) (by kernel_rfl) ?_ ?_
  · exact (sig_of (L := []) trivial)
  · rintro ds rs - h
    obtain ⟨n, ⟨h1, h2⟩, rfl, rfl⟩ := spD_some h
    clear h
    refine ⟨⟨5, ?_⟩, scalOk_1 rfl⟩
    show den _ _ t_lockMix [I n] [] = ret (mixI n)
    have b1 := mixStep_bd (x := n + 1000000) (by omega)
    have b2 := mixStep_bd b1.1
    have b3 := mixStep_bd b2.1
    unfold t_lockMix
    repeat' (first | refine den_let1 (by first | exact dx_eql rfl rfl | exact dx_neq rfl rfl | exact dx_lss rfl rfl | exact dx_gtr rfl rfl | exact dx_geq rfl rfl | exact dx_leq rfl rfl | exact dx_len rfl | exact den_add rfl rfl (by omega) | exact den_sub rfl rfl (by omega) | exact dx_idx rfl rfl (by omega) (by first | assumption | exact hx) rfl | exact dx_not rfl | exact dx_len0 rfl | exact dx_eqS rfl rfl | exact dx_neS rfl rfl | exact dx_eqB rfl rfl | exact dx_neB rfl rfl | exact dx_eqP rfl rfl rfl rfl | exact dx_neP rfl rfl rfl rfl | exact dx_neg rfl (by omega) | exact dx_cutl rfl rfl (by omega) (by omega) (by assumption) | exact den_mk (r := [[I _]]) rfl rfl (by simp) | exact dx_sel rfl rfl (by omega) rfl | exact dx_mn rfl rfl | exact dx_slen rfl | exact dx_app1 (fun _ => rfl) rfl rfl (by first | omega | (simp only [List.length_append, List.length_cons, List.length_nil]; omega))) ?_ | refine den_ck (by exact dx_inr rfl rfl (by omega) (by omega)) ?_ | refine den_lets (by first | exact dx_el rfl rfl (by omega) (by first | assumption | exact hx) (by rfl) | exact denXs_cons (dx_idx rfl rfl (by omega) (by first | assumption | exact hx) rfl) (denXs_cons (dx_idx rfl rfl (by omega) (by first | assumption | exact hx) rfl) denXs_nil)) ?_ (by simp only [eCoin, eTx, eIn, eOut, eOp, ePoint, eInt, eStr, eBlock, eTree, eBook, eUndo, eBool, List.cons_append, List.nil_append]; try exact rfl) | exact den_ret rfl rfl | refine den_ifR rfl (by with_reducible rfl) (fun h => ?_) (fun h => ?_) | refine den_ifB rfl (by with_reducible rfl) (fun h => ?_) (fun h => ?_) | refine den_ifC rfl (by with_reducible rfl) (fun h => ?_) (fun h => ?_) | refine den_ifBn rfl (by with_reducible rfl) (fun h => ?_) (fun h => ?_) | refine den_ifF rfl (by with_reducible rfl) (fun h => ?_) (fun h => ?_) | refine den_ifFn rfl (by with_reducible rfl) (fun h => ?_) (fun h => ?_) | refine den_ifAndOr rfl (by with_reducible rfl) (fun h => ?_) (fun h => ?_) | refine den_ifOrAnd rfl (by with_reducible rfl) (fun h => ?_) (fun h => ?_) | refine den_ifAnd rfl (by with_reducible rfl) (fun h => ?_) (fun h => ?_) | refine den_ifOr rfl (by with_reducible rfl) (fun h => ?_) (fun h => ?_) | refine den_band rfl (by with_reducible rfl) (fun h => ?_) (fun h => ?_) | refine den_bor rfl (by with_reducible rfl) (fun h => ?_) (fun h => ?_) | refine den_T rfl (by first | assumption | omega) ?_ | refine den_F rfl (by first | assumption | omega) ?_ | refine den_t rfl ?_ | refine den_f rfl ?_)
    refine den_loopI (fun (s : Nat × Int) => [I s.2, I s.1]) (fun s => (s = (0, n + 1000000) ∨ s = (1, mixStep (n + 1000000)) ∨ s = (2, mixStep (mixStep (n + 1000000))) ∨ s = (3, mixStep (mixStep (mixStep (n + 1000000)))))) (fun s => 3 - s.1) (0, n + 1000000) rfl (.inl rfl) (by omega) ?_
    have go : ∀ (again : List Dt → Option (List Dt)) (i : Int) (x : Int) (nx : Int), 0 ≤ x → x ≤ 3000000 → nx = mixStep x → i < 3 → 0 ≤ i → again [I nx, I (i + 1)] = ret (mixI n) → den (fun ci => ([] : List Spec).getD ci fun _ => none) 5 (match t_lockMix with | .lets _ _ (.loop _ b) => b | _ => .ret []) [I n, I (n + 1000000), I x, I i] [again] = ret (mixI n) := by
      intro again i x nx hx0 hx1 hnx hi hi0 hag
      subst hnx
      unfold mixStep at hag
      show den _ _ _ _ _ = _
      simp only [t_lockMix]
      repeat' (first | refine den_let1 (by first | exact dx_eql rfl rfl | exact dx_neq rfl rfl | exact dx_lss rfl rfl | exact dx_gtr rfl rfl | exact dx_geq rfl rfl | exact dx_leq rfl rfl | exact dx_len rfl | exact den_add rfl rfl (by omega) | exact den_sub rfl rfl (by omega) | exact dx_idx rfl rfl (by omega) (by first | assumption | exact hx) rfl | exact dx_not rfl | exact dx_len0 rfl | exact dx_eqS rfl rfl | exact dx_neS rfl rfl | exact dx_eqB rfl rfl | exact dx_neB rfl rfl | exact dx_eqP rfl rfl rfl rfl | exact dx_neP rfl rfl rfl rfl | exact dx_neg rfl (by omega) | exact dx_cutl rfl rfl (by omega) (by omega) (by assumption) | exact den_mk (r := [[I _]]) rfl rfl (by simp) | exact dx_sel rfl rfl (by omega) rfl | exact dx_mn rfl rfl | exact dx_slen rfl | exact dx_app1 (fun _ => rfl) rfl rfl (by first | omega | (simp only [List.length_append, List.length_cons, List.length_nil]; omega))) ?_ | refine den_ck (by exact dx_inr rfl rfl (by omega) (by omega)) ?_ | refine den_lets (by first | exact dx_el rfl rfl (by omega) (by first | assumption | exact hx) (by rfl) | exact denXs_cons (dx_idx rfl rfl (by omega) (by first | assumption | exact hx) rfl) (denXs_cons (dx_idx rfl rfl (by omega) (by first | assumption | exact hx) rfl) denXs_nil)) ?_ (by simp only [eCoin, eTx, eIn, eOut, eOp, ePoint, eInt, eStr, eBlock, eTree, eBook, eUndo, eBool, List.cons_append, List.nil_append]; try exact rfl) | refine den_T rfl (by first | assumption | omega) ?_ | refine den_F rfl (by first | assumption | omega) ?_ | refine den_t rfl ?_ | refine den_f rfl ?_ | refine den_let1 (den_mul rfl rfl (by omega)) ?_ | refine den_let1 (den_rem rfl rfl (by decide)) ?_ | exact den_again rfl rfl hag)
    rintro s hs again hag
    rcases hs with rfl | rfl | rfl | rfl
    · exact go again 0 _ _ (by omega) (by omega) rfl (by omega) (by omega) (hag (1, mixStep (n + 1000000)) (.inr (.inl rfl)) (by simp))
    · exact go again 1 _ _ (by omega) (by omega) rfl (by omega) (by omega) (hag (2, mixStep (mixStep (n + 1000000))) (.inr (.inr (.inl rfl))) (by simp))
    · exact go again 2 _ _ (by omega) (by omega) rfl (by omega) (by omega) (hag (3, mixStep (mixStep (mixStep (n + 1000000)))) (.inr (.inr (.inr rfl))) (by simp))
    · unfold mixI
      repeat' (first | refine den_let1 (by first | exact dx_eql rfl rfl | exact dx_neq rfl rfl | exact dx_lss rfl rfl | exact dx_gtr rfl rfl | exact dx_geq rfl rfl | exact dx_leq rfl rfl | exact dx_len rfl | exact den_add rfl rfl (by omega) | exact den_sub rfl rfl (by omega) | exact dx_idx rfl rfl (by omega) (by first | assumption | exact hx) rfl | exact dx_not rfl | exact dx_len0 rfl | exact dx_eqS rfl rfl | exact dx_neS rfl rfl | exact dx_eqB rfl rfl | exact dx_neB rfl rfl | exact dx_eqP rfl rfl rfl rfl | exact dx_neP rfl rfl rfl rfl | exact dx_neg rfl (by omega) | exact dx_cutl rfl rfl (by omega) (by omega) (by assumption) | exact den_mk (r := [[I _]]) rfl rfl (by simp) | exact dx_sel rfl rfl (by omega) rfl | exact dx_mn rfl rfl | exact dx_slen rfl | exact dx_app1 (fun _ => rfl) rfl rfl (by first | omega | (simp only [List.length_append, List.length_cons, List.length_nil]; omega))) ?_ | refine den_ck (by exact dx_inr rfl rfl (by omega) (by omega)) ?_ | refine den_lets (by first | exact dx_el rfl rfl (by omega) (by first | assumption | exact hx) (by rfl) | exact denXs_cons (dx_idx rfl rfl (by omega) (by first | assumption | exact hx) rfl) (denXs_cons (dx_idx rfl rfl (by omega) (by first | assumption | exact hx) rfl) denXs_nil)) ?_ (by simp only [eCoin, eTx, eIn, eOut, eOp, ePoint, eInt, eStr, eBlock, eTree, eBook, eUndo, eBool, List.cons_append, List.nil_append]; try exact rfl) | refine den_T rfl (by first | assumption | omega) ?_ | refine den_F rfl (by first | assumption | omega) ?_ | refine den_t rfl ?_ | refine den_f rfl ?_ | refine den_let1 (den_rem rfl rfl (by decide)) ?_ | exact den_ret rfl rfl)
end Go.Proofs.Ytnnbnjanekibpaa
namespace Go.Proofs.Ytnnbnjanekibpaa
open Go.RowKit
set_option linter.unusedVariables false
set_option linter.unusedSimpArgs false
set_option maxRecDepth 100000
set_option maxHeartbeats 8000000
attribute [local irreducible] specOf spD ordP mixI bitI
noncomputable def sp_lockRun : Spec := spD (fun x : List Op × List Int × Int => x.2.1.length ≤ 1000000) fun x => runOf x.1 x.2.1 x.2.2
theorem sp_lockRun_at (l : List Op) (s : List Int) (h : Int) (hs : s.length ≤ 1000000) : sp_lockRun [.l 2 (l.map eOp), .l 1 (s.map eInt), I h] = some [.l 1 ((runOf l s h).1.map eInt), I (runOf l s h).2] := spD_at (p := fun x : List Op × List Int × Int => x.2.1.length ≤ 1000000) (f := fun x : List Op × List Int × Int => runOf x.1 x.2.1 x.2.2) (l, s, h) hs
def t_lockRun_0 : T :=
  .lets [.bin .gtr (.v 16) (.c (.i .i64 1000000))] [] (.ite (.v 18) (.ret [.c (.nil 1), .c (.i .i64 3)]) (.lets [.bin .add (.v 14) (.c (.i .i64 1))] [] (.again 0 [.v 12, .v 13, .v
  19])))
def t_lockRun_1 : T :=
  .lets [] [.inr 1 (.v 1) (.v 14)] (.lets [.idx (.v 1) (.v 14) 0] [] (.lets [.bin .lss (.v 16) (.c (.i .i64 (-1000000)))] [] (.ite (.v 17) (.ret [.c (.nil 1), .c (.i .i64 3)])
  t_lockRun_0)))
def t_lockRun_2 : T :=
  .ite (.v 28) (.ret [.c (.nil 1), .c (.i .i64 8)]) (.lets [.mk 1 [[.v 23]]] [] (.lets [.app 1 (.v 17) (.v 29)] [] (.lets [.bin .add (.v 20) (.c (.i .i64 1))] [] (.again 1 [.v 30, .v
  18, .v 19, .v 31]))))
def t_lockRun_3 : T :=
  .lets [.bin .lss (.v 23) (.c (.i .i64 (-1000000)))] [] (.ite (.v 27) (.ret [.c (.nil 1), .c (.i .i64 8)]) (.lets [.bin .gtr (.v 23) (.c (.i .i64 1000000))] [] t_lockRun_2))
def t_lockRun_4 : T :=
  .lets [.bin .gtr (.v 30) (.c (.i .i64 1000000))] [] (.ite (.v 39) (.ret [.c (.nil 1), .c (.i .i64 8)]) (.lets [.mk 1 [[.v 30]]] [] (.lets [.app 1 (.v 33) (.v 40)] [] (.ret [.c (.nil
  1), .c (.i .i64 8)]))))
def t_lockRun_5 : T :=
  .ite (.v 37) (.ret [.c (.nil 1), .c (.i .i64 8)]) (.lets [.bin .lss (.v 30) (.c (.i .i64 (-1000000)))] [] (.ite (.v 38) (.ret [.c (.nil 1), .c (.i .i64 8)]) t_lockRun_4))
def t_lockRun_6 : T :=
  .lets [.bin .gtr (.v 30) (.c (.i .i64 1000000))] [] (.ite (.v 40) (.ret [.c (.nil 1), .c (.i .i64 8)]) (.lets [.mk 1 [[.v 30]]] [] (.lets [.app 1 (.v 33) (.v 41)] [] (.ret [.c (.nil
  1), .c (.i .i64 8)]))))
def t_lockRun_7 : T :=
  .ite (.v 38) (.ret [.c (.nil 1), .c (.i .i64 8)]) (.lets [.bin .lss (.v 30) (.c (.i .i64 (-1000000)))] [] (.ite (.v 39) (.ret [.c (.nil 1), .c (.i .i64 8)]) t_lockRun_6))
def t_lockRun_8 : T :=
  .lets [.bin .gtr (.v 30) (.c (.i .i64 1000000))] [] (.ite (.v 41) (.ret [.c (.nil 1), .c (.i .i64 8)]) (.lets [.mk 1 [[.v 30]]] [] (.lets [.app 1 (.v 33) (.v 42)] [] (.ret [.c (.nil
  1), .c (.i .i64 8)]))))
def t_lockRun_9 : T :=
  .ite (.v 39) (.ret [.c (.nil 1), .c (.i .i64 8)]) (.lets [.bin .lss (.v 30) (.c (.i .i64 (-1000000)))] [] (.ite (.v 40) (.ret [.c (.nil 1), .c (.i .i64 8)]) t_lockRun_8))
def t_lockRun_10 : T :=
  .ite (.v 43) (.ret [.c (.nil 1), .c (.i .i64 8)]) (.lets [.mk 1 [[.v 30]]] [] (.lets [.app 1 (.v 39) (.v 44)] [] (.lets [.bin .add (.v 20) (.c (.i .i64 1))] [] (.again 1 [.v 45, .v
  18, .v 19, .v 46]))))
def t_lockRun_11 : T :=
  .lets [.bin .lss (.v 30) (.c (.i .i64 (-1000000)))] [] (.ite (.v 42) (.ret [.c (.nil 1), .c (.i .i64 8)]) (.lets [.bin .gtr (.v 30) (.c (.i .i64 1000000))] [] t_lockRun_10))
def t_lockRun_12 : T :=
  .lets [.app 1 (.v 33) (.v 38)] [] (.lets [.len (.v 39)] [] (.lets [.bin .eql (.v 40) (.c (.i .i64 16))] [] (.ite (.v 41) (.ret [.c (.nil 1), .c (.i .i64 8)]) t_lockRun_11)))
def t_lockRun_13 : T :=
  .lets [.bin .gtr (.v 30) (.c (.i .i64 1000000))] [] (.ite (.v 37) (.lets [.len (.v 33)] [] (.lets [.bin .eql (.v 38) (.c (.i .i64 16))] [] t_lockRun_9)) (.lets [.mk 1 [[.v 30]]] []
  t_lockRun_12))
def t_lockRun_14 : T :=
  .lets [.bin .lss (.v 30) (.c (.i .i64 (-1000000)))] [] (.ite (.v 36) (.lets [.len (.v 33)] [] (.lets [.bin .eql (.v 37) (.c (.i .i64 16))] [] t_lockRun_7)) t_lockRun_13)
def t_lockRun_15 : T :=
  .lets [.bin .eql (.v 34) (.c (.i .i64 16))] [] (.ite (.v 35) (.lets [.len (.v 33)] [] (.lets [.bin .eql (.v 36) (.c (.i .i64 16))] [] t_lockRun_5)) t_lockRun_14)
def t_lockRun_16 : T :=
  .lets [.idx (.v 17) (.v 29) 0] [] (.lets [.len (.v 17)] [] (.lets [.bin .sub (.v 31) (.c (.i .i64 1))] [] (.lets [.sub 1 (.v 17) none (some (.v 32))] [] (.lets [.len (.v 33)] []
  t_lockRun_15))))
def t_lockRun_17 : T :=
  .ite (.v 27) (.ret [.c (.nil 1), .c (.i .i64 8)]) (.lets [.len (.v 17)] [] (.lets [.bin .sub (.v 28) (.c (.i .i64 1))] [] (.lets [] [.inr 1 (.v 17) (.v 29)] t_lockRun_16)))
def t_lockRun_18 : T :=
  .lets [.idx (.v 17) (.v 32) 0] [] (.lets [.len (.v 17)] [] (.lets [.bin .sub (.v 34) (.c (.i .i64 1))] [] (.lets [.sub 1 (.v 17) none (some (.v 35))] [] (.ret [.c (.nil 1), .c (.i
  .i64 8)]))))
def t_lockRun_19 : T :=
  .ite (.v 30) (.ret [.c (.nil 1), .c (.i .i64 8)]) (.lets [.len (.v 17)] [] (.lets [.bin .sub (.v 31) (.c (.i .i64 1))] [] (.lets [] [.inr 1 (.v 17) (.v 32)] t_lockRun_18)))
def t_lockRun_20 : T :=
  .lets [.bin .gtr (.v 39) (.c (.i .i64 1000000))] [] (.ite (.v 48) (.ret [.c (.nil 1), .c (.i .i64 8)]) (.lets [.mk 1 [[.v 39]]] [] (.lets [.app 1 (.v 42) (.v 49)] [] (.ret [.c (.nil
  1), .c (.i .i64 8)]))))
def t_lockRun_21 : T :=
  .ite (.v 46) (.ret [.c (.nil 1), .c (.i .i64 8)]) (.lets [.bin .lss (.v 39) (.c (.i .i64 (-1000000)))] [] (.ite (.v 47) (.ret [.c (.nil 1), .c (.i .i64 8)]) t_lockRun_20))
def t_lockRun_22 : T :=
  .lets [.bin .gtr (.v 39) (.c (.i .i64 1000000))] [] (.ite (.v 49) (.ret [.c (.nil 1), .c (.i .i64 8)]) (.lets [.mk 1 [[.v 39]]] [] (.lets [.app 1 (.v 42) (.v 50)] [] (.ret [.c (.nil
  1), .c (.i .i64 8)]))))
def t_lockRun_23 : T :=
  .ite (.v 47) (.ret [.c (.nil 1), .c (.i .i64 8)]) (.lets [.bin .lss (.v 39) (.c (.i .i64 (-1000000)))] [] (.ite (.v 48) (.ret [.c (.nil 1), .c (.i .i64 8)]) t_lockRun_22))
def t_lockRun_24 : T :=
  .lets [.bin .gtr (.v 39) (.c (.i .i64 1000000))] [] (.ite (.v 50) (.ret [.c (.nil 1), .c (.i .i64 8)]) (.lets [.mk 1 [[.v 39]]] [] (.lets [.app 1 (.v 42) (.v 51)] [] (.ret [.c (.nil
  1), .c (.i .i64 8)]))))
def t_lockRun_25 : T :=
  .ite (.v 48) (.ret [.c (.nil 1), .c (.i .i64 8)]) (.lets [.bin .lss (.v 39) (.c (.i .i64 (-1000000)))] [] (.ite (.v 49) (.ret [.c (.nil 1), .c (.i .i64 8)]) t_lockRun_24))
def t_lockRun_26 : T :=
  .ite (.v 52) (.ret [.c (.nil 1), .c (.i .i64 8)]) (.lets [.mk 1 [[.v 39]]] [] (.lets [.app 1 (.v 48) (.v 53)] [] (.lets [.bin .add (.v 20) (.c (.i .i64 1))] [] (.again 1 [.v 54, .v
  18, .v 19, .v 55]))))
def t_lockRun_27 : T :=
  .lets [.bin .lss (.v 39) (.c (.i .i64 (-1000000)))] [] (.ite (.v 51) (.ret [.c (.nil 1), .c (.i .i64 8)]) (.lets [.bin .gtr (.v 39) (.c (.i .i64 1000000))] [] t_lockRun_26))
def t_lockRun_28 : T :=
  .lets [.app 1 (.v 42) (.v 47)] [] (.lets [.len (.v 48)] [] (.lets [.bin .eql (.v 49) (.c (.i .i64 16))] [] (.ite (.v 50) (.ret [.c (.nil 1), .c (.i .i64 8)]) t_lockRun_27)))
def t_lockRun_29 : T :=
  .lets [.bin .gtr (.v 31) (.c (.i .i64 1000000))] [] (.ite (.v 46) (.lets [.len (.v 42)] [] (.lets [.bin .eql (.v 47) (.c (.i .i64 16))] [] t_lockRun_25)) (.lets [.mk 1 [[.v 31]]] []
  t_lockRun_28))
def t_lockRun_30 : T :=
  .lets [.bin .lss (.v 31) (.c (.i .i64 (-1000000)))] [] (.ite (.v 45) (.lets [.len (.v 42)] [] (.lets [.bin .eql (.v 46) (.c (.i .i64 16))] [] t_lockRun_23)) t_lockRun_29)
def t_lockRun_31 : T :=
  .lets [.bin .eql (.v 43) (.c (.i .i64 16))] [] (.ite (.v 44) (.lets [.len (.v 42)] [] (.lets [.bin .eql (.v 45) (.c (.i .i64 16))] [] t_lockRun_21)) t_lockRun_30)
def t_lockRun_32 : T :=
  .lets [.idx (.v 34) (.v 38) 0] [] (.lets [.len (.v 34)] [] (.lets [.bin .sub (.v 40) (.c (.i .i64 1))] [] (.lets [.sub 1 (.v 34) none (some (.v 41))] [] (.lets [.len (.v 42)] []
  t_lockRun_31))))
def t_lockRun_33 : T :=
  .ite (.v 36) (.ret [.c (.nil 1), .c (.i .i64 8)]) (.lets [.len (.v 34)] [] (.lets [.bin .sub (.v 37) (.c (.i .i64 1))] [] (.lets [] [.inr 1 (.v 34) (.v 38)] t_lockRun_32)))
def t_lockRun_34 : T :=
  .lets [.bin .sub (.v 32) (.c (.i .i64 1))] [] (.lets [.sub 1 (.v 17) none (some (.v 33))] [] (.lets [.len (.v 34)] [] (.lets [.bin .eql (.v 35) (.c (.i .i64 0))] [] t_lockRun_33)))
def t_lockRun_35 : T :=
  .lets [.len (.v 17)] [] (.lets [.bin .sub (.v 29) (.c (.i .i64 1))] [] (.lets [] [.inr 1 (.v 17) (.v 30)] (.lets [.idx (.v 17) (.v 30) 0] [] (.lets [.len (.v 17)] []
  t_lockRun_34))))
def t_lockRun_36 : T :=
  .lets [.len (.v 17)] [] (.lets [.bin .eql (.v 27) (.c (.i .i64 0))] [] (.ite (.v 28) (.lets [.len (.v 17)] [] (.lets [.bin .eql (.v 29) (.c (.i .i64 0))] [] t_lockRun_19))
  t_lockRun_35))
def t_lockRun_37 : T :=
  .lets [.bin .sub (.v 33) (.c (.i .i64 1))] [] (.lets [.sub 1 (.v 17) none (some (.v 34))] [] (.lets [.bin .add (.v 20) (.c (.i .i64 1))] [] (.again 1 [.v 35, .v 18, .v 19, .v 36])))
def t_lockRun_38 : T :=
  .lets [.len (.v 17)] [] (.lets [.bin .sub (.v 30) (.c (.i .i64 1))] [] (.lets [] [.inr 1 (.v 17) (.v 31)] (.lets [.idx (.v 17) (.v 31) 0] [] (.lets [.len (.v 17)] []
  t_lockRun_37))))
def t_lockRun_39 : T :=
  .lets [.idx (.v 17) (.v 34) 0] [] (.lets [.len (.v 17)] [] (.lets [.bin .sub (.v 36) (.c (.i .i64 1))] [] (.lets [.sub 1 (.v 17) none (some (.v 37))] [] (.ret [.c (.nil 1), .c (.i
  .i64 8)]))))
def t_lockRun_40 : T :=
  .ite (.v 32) (.ret [.c (.nil 1), .c (.i .i64 8)]) (.lets [.len (.v 17)] [] (.lets [.bin .sub (.v 33) (.c (.i .i64 1))] [] (.lets [] [.inr 1 (.v 17) (.v 34)] t_lockRun_39)))
def t_lockRun_41 : T :=
  .ite (.v 49) (.ret [.c (.nil 1), .c (.i .i64 8)]) (.lets [.mk 1 [[.v 45]]] [] (.lets [.app 1 (.v 44) (.v 50)] [] (.lets [.bin .add (.v 20) (.c (.i .i64 1))] [] (.again 1 [.v 51, .v
  18, .v 19, .v 52]))))
def t_lockRun_42 : T :=
  .lets [.bin .lss (.v 45) (.c (.i .i64 (-1000000)))] [] (.ite (.v 48) (.ret [.c (.nil 1), .c (.i .i64 8)]) (.lets [.bin .gtr (.v 45) (.c (.i .i64 1000000))] [] t_lockRun_41))
def t_lockRun_43 : T :=
  .lets [.call 41 [.v 41, .v 33] 0] [] (.lets [.len (.v 44)] [] (.lets [.bin .eql (.v 46) (.c (.i .i64 16))] [] (.ite (.v 47) (.ret [.c (.nil 1), .c (.i .i64 8)]) t_lockRun_42)))
def t_lockRun_44 : T :=
  .lets [.idx (.v 36) (.v 40) 0] [] (.lets [.len (.v 36)] [] (.lets [.bin .sub (.v 42) (.c (.i .i64 1))] [] (.lets [.sub 1 (.v 36) none (some (.v 43))] [] t_lockRun_43)))
def t_lockRun_45 : T :=
  .ite (.v 38) (.ret [.c (.nil 1), .c (.i .i64 8)]) (.lets [.len (.v 36)] [] (.lets [.bin .sub (.v 39) (.c (.i .i64 1))] [] (.lets [] [.inr 1 (.v 36) (.v 40)] t_lockRun_44)))
def t_lockRun_46 : T :=
  .lets [.bin .sub (.v 34) (.c (.i .i64 1))] [] (.lets [.sub 1 (.v 17) none (some (.v 35))] [] (.lets [.len (.v 36)] [] (.lets [.bin .eql (.v 37) (.c (.i .i64 0))] [] t_lockRun_45)))
def t_lockRun_47 : T :=
  .lets [.len (.v 17)] [] (.lets [.bin .sub (.v 31) (.c (.i .i64 1))] [] (.lets [] [.inr 1 (.v 17) (.v 32)] (.lets [.idx (.v 17) (.v 32) 0] [] (.lets [.len (.v 17)] []
  t_lockRun_46))))
def t_lockRun_48 : T :=
  .lets [.len (.v 17)] [] (.lets [.bin .eql (.v 29) (.c (.i .i64 0))] [] (.ite (.v 30) (.lets [.len (.v 17)] [] (.lets [.bin .eql (.v 31) (.c (.i .i64 0))] [] t_lockRun_40))
  t_lockRun_47))
def t_lockRun_49 : T :=
  .lets [.idx (.v 17) (.v 35) 0] [] (.lets [.len (.v 17)] [] (.lets [.bin .sub (.v 37) (.c (.i .i64 1))] [] (.lets [.sub 1 (.v 17) none (some (.v 38))] [] (.ret [.c (.nil 1), .c (.i
  .i64 8)]))))
def t_lockRun_50 : T :=
  .ite (.v 33) (.ret [.c (.nil 1), .c (.i .i64 8)]) (.lets [.len (.v 17)] [] (.lets [.bin .sub (.v 34) (.c (.i .i64 1))] [] (.lets [] [.inr 1 (.v 17) (.v 35)] t_lockRun_49)))
def t_lockRun_51 : T :=
  .ite (.v 50) (.ret [.c (.nil 1), .c (.i .i64 8)]) (.lets [.mk 1 [[.v 46]]] [] (.lets [.app 1 (.v 45) (.v 51)] [] (.lets [.bin .add (.v 20) (.c (.i .i64 1))] [] (.again 1 [.v 52, .v
  18, .v 19, .v 53]))))
def t_lockRun_52 : T :=
  .lets [.bin .lss (.v 46) (.c (.i .i64 (-1000000)))] [] (.ite (.v 49) (.ret [.c (.nil 1), .c (.i .i64 8)]) (.lets [.bin .gtr (.v 46) (.c (.i .i64 1000000))] [] t_lockRun_51))
def t_lockRun_53 : T :=
  .lets [.call 42 [.v 42, .v 34] 0] [] (.lets [.len (.v 45)] [] (.lets [.bin .eql (.v 47) (.c (.i .i64 16))] [] (.ite (.v 48) (.ret [.c (.nil 1), .c (.i .i64 8)]) t_lockRun_52)))
def t_lockRun_54 : T :=
  .lets [.idx (.v 37) (.v 41) 0] [] (.lets [.len (.v 37)] [] (.lets [.bin .sub (.v 43) (.c (.i .i64 1))] [] (.lets [.sub 1 (.v 37) none (some (.v 44))] [] t_lockRun_53)))
def t_lockRun_55 : T :=
  .ite (.v 39) (.ret [.c (.nil 1), .c (.i .i64 8)]) (.lets [.len (.v 37)] [] (.lets [.bin .sub (.v 40) (.c (.i .i64 1))] [] (.lets [] [.inr 1 (.v 37) (.v 41)] t_lockRun_54)))
def t_lockRun_56 : T :=
  .lets [.bin .sub (.v 35) (.c (.i .i64 1))] [] (.lets [.sub 1 (.v 17) none (some (.v 36))] [] (.lets [.len (.v 37)] [] (.lets [.bin .eql (.v 38) (.c (.i .i64 0))] [] t_lockRun_55)))
def t_lockRun_57 : T :=
  .lets [.len (.v 17)] [] (.lets [.bin .sub (.v 32) (.c (.i .i64 1))] [] (.lets [] [.inr 1 (.v 17) (.v 33)] (.lets [.idx (.v 17) (.v 33) 0] [] (.lets [.len (.v 17)] []
  t_lockRun_56))))
def t_lockRun_58 : T :=
  .lets [.len (.v 17)] [] (.lets [.bin .eql (.v 30) (.c (.i .i64 0))] [] (.ite (.v 31) (.lets [.len (.v 17)] [] (.lets [.bin .eql (.v 32) (.c (.i .i64 0))] [] t_lockRun_50))
  t_lockRun_57))
def t_lockRun_59 : T :=
  .lets [.idx (.v 17) (.v 36) 0] [] (.lets [.len (.v 17)] [] (.lets [.bin .sub (.v 38) (.c (.i .i64 1))] [] (.lets [.sub 1 (.v 17) none (some (.v 39))] [] (.ret [.c (.nil 1), .c (.i
  .i64 8)]))))
def t_lockRun_60 : T :=
  .ite (.v 34) (.ret [.c (.nil 1), .c (.i .i64 8)]) (.lets [.len (.v 17)] [] (.lets [.bin .sub (.v 35) (.c (.i .i64 1))] [] (.lets [] [.inr 1 (.v 17) (.v 36)] t_lockRun_59)))
def t_lockRun_61 : T :=
  .ite (.v 51) (.ret [.c (.nil 1), .c (.i .i64 8)]) (.lets [.mk 1 [[.v 47]]] [] (.lets [.app 1 (.v 46) (.v 52)] [] (.lets [.bin .add (.v 20) (.c (.i .i64 1))] [] (.again 1 [.v 53, .v
  18, .v 19, .v 54]))))
def t_lockRun_62 : T :=
  .lets [.bin .lss (.v 47) (.c (.i .i64 (-1000000)))] [] (.ite (.v 50) (.ret [.c (.nil 1), .c (.i .i64 8)]) (.lets [.bin .gtr (.v 47) (.c (.i .i64 1000000))] [] t_lockRun_61))
def t_lockRun_63 : T :=
  .lets [.call 43 [.v 43, .v 35] 0] [] (.lets [.len (.v 46)] [] (.lets [.bin .eql (.v 48) (.c (.i .i64 16))] [] (.ite (.v 49) (.ret [.c (.nil 1), .c (.i .i64 8)]) t_lockRun_62)))
def t_lockRun_64 : T :=
  .lets [.idx (.v 38) (.v 42) 0] [] (.lets [.len (.v 38)] [] (.lets [.bin .sub (.v 44) (.c (.i .i64 1))] [] (.lets [.sub 1 (.v 38) none (some (.v 45))] [] t_lockRun_63)))
def t_lockRun_65 : T :=
  .ite (.v 40) (.ret [.c (.nil 1), .c (.i .i64 8)]) (.lets [.len (.v 38)] [] (.lets [.bin .sub (.v 41) (.c (.i .i64 1))] [] (.lets [] [.inr 1 (.v 38) (.v 42)] t_lockRun_64)))
def t_lockRun_66 : T :=
  .lets [.bin .sub (.v 36) (.c (.i .i64 1))] [] (.lets [.sub 1 (.v 17) none (some (.v 37))] [] (.lets [.len (.v 38)] [] (.lets [.bin .eql (.v 39) (.c (.i .i64 0))] [] t_lockRun_65)))
def t_lockRun_67 : T :=
  .lets [.len (.v 17)] [] (.lets [.bin .sub (.v 33) (.c (.i .i64 1))] [] (.lets [] [.inr 1 (.v 17) (.v 34)] (.lets [.idx (.v 17) (.v 34) 0] [] (.lets [.len (.v 17)] []
  t_lockRun_66))))
def t_lockRun_68 : T :=
  .lets [.len (.v 17)] [] (.lets [.bin .eql (.v 31) (.c (.i .i64 0))] [] (.ite (.v 32) (.lets [.len (.v 17)] [] (.lets [.bin .eql (.v 33) (.c (.i .i64 0))] [] t_lockRun_60))
  t_lockRun_67))
def t_lockRun_69 : T :=
  .lets [.idx (.v 17) (.v 37) 0] [] (.lets [.len (.v 17)] [] (.lets [.bin .sub (.v 39) (.c (.i .i64 1))] [] (.lets [.sub 1 (.v 17) none (some (.v 40))] [] (.ret [.c (.nil 1), .c (.i
  .i64 8)]))))
def t_lockRun_70 : T :=
  .ite (.v 35) (.ret [.c (.nil 1), .c (.i .i64 8)]) (.lets [.len (.v 17)] [] (.lets [.bin .sub (.v 36) (.c (.i .i64 1))] [] (.lets [] [.inr 1 (.v 17) (.v 37)] t_lockRun_69)))
def t_lockRun_71 : T :=
  .ite (.v 52) (.ret [.c (.nil 1), .c (.i .i64 8)]) (.lets [.mk 1 [[.v 48]]] [] (.lets [.app 1 (.v 47) (.v 53)] [] (.lets [.bin .add (.v 20) (.c (.i .i64 1))] [] (.again 1 [.v 54, .v
  18, .v 19, .v 55]))))
def t_lockRun_72 : T :=
  .lets [.bin .lss (.v 48) (.c (.i .i64 (-1000000)))] [] (.ite (.v 51) (.ret [.c (.nil 1), .c (.i .i64 8)]) (.lets [.bin .gtr (.v 48) (.c (.i .i64 1000000))] [] t_lockRun_71))
def t_lockRun_73 : T :=
  .lets [.call 44 [.v 44, .v 36] 0] [] (.lets [.len (.v 47)] [] (.lets [.bin .eql (.v 49) (.c (.i .i64 16))] [] (.ite (.v 50) (.ret [.c (.nil 1), .c (.i .i64 8)]) t_lockRun_72)))
def t_lockRun_74 : T :=
  .lets [.idx (.v 39) (.v 43) 0] [] (.lets [.len (.v 39)] [] (.lets [.bin .sub (.v 45) (.c (.i .i64 1))] [] (.lets [.sub 1 (.v 39) none (some (.v 46))] [] t_lockRun_73)))
def t_lockRun_75 : T :=
  .ite (.v 41) (.ret [.c (.nil 1), .c (.i .i64 8)]) (.lets [.len (.v 39)] [] (.lets [.bin .sub (.v 42) (.c (.i .i64 1))] [] (.lets [] [.inr 1 (.v 39) (.v 43)] t_lockRun_74)))
def t_lockRun_76 : T :=
  .lets [.bin .sub (.v 37) (.c (.i .i64 1))] [] (.lets [.sub 1 (.v 17) none (some (.v 38))] [] (.lets [.len (.v 39)] [] (.lets [.bin .eql (.v 40) (.c (.i .i64 0))] [] t_lockRun_75)))
def t_lockRun_77 : T :=
  .lets [.len (.v 17)] [] (.lets [.bin .sub (.v 34) (.c (.i .i64 1))] [] (.lets [] [.inr 1 (.v 17) (.v 35)] (.lets [.idx (.v 17) (.v 35) 0] [] (.lets [.len (.v 17)] []
  t_lockRun_76))))
def t_lockRun_78 : T :=
  .lets [.len (.v 17)] [] (.lets [.bin .eql (.v 32) (.c (.i .i64 0))] [] (.ite (.v 33) (.lets [.len (.v 17)] [] (.lets [.bin .eql (.v 34) (.c (.i .i64 0))] [] t_lockRun_70))
  t_lockRun_77))
def t_lockRun_79 : T :=
  .lets [.idx (.v 17) (.v 38) 0] [] (.lets [.len (.v 17)] [] (.lets [.bin .sub (.v 40) (.c (.i .i64 1))] [] (.lets [.sub 1 (.v 17) none (some (.v 41))] [] (.ret [.c (.nil 1), .c (.i
  .i64 8)]))))
def t_lockRun_80 : T :=
  .ite (.v 36) (.ret [.c (.nil 1), .c (.i .i64 8)]) (.lets [.len (.v 17)] [] (.lets [.bin .sub (.v 37) (.c (.i .i64 1))] [] (.lets [] [.inr 1 (.v 17) (.v 38)] t_lockRun_79)))
def t_lockRun_81 : T :=
  .ite (.v 53) (.ret [.c (.nil 1), .c (.i .i64 8)]) (.lets [.mk 1 [[.v 49]]] [] (.lets [.app 1 (.v 48) (.v 54)] [] (.lets [.bin .add (.v 20) (.c (.i .i64 1))] [] (.again 1 [.v 55, .v
  18, .v 19, .v 56]))))
def t_lockRun_82 : T :=
  .lets [.bin .lss (.v 49) (.c (.i .i64 (-1000000)))] [] (.ite (.v 52) (.ret [.c (.nil 1), .c (.i .i64 8)]) (.lets [.bin .gtr (.v 49) (.c (.i .i64 1000000))] [] t_lockRun_81))
def t_lockRun_83 : T :=
  .lets [.call 45 [.v 45, .v 37] 0] [] (.lets [.len (.v 48)] [] (.lets [.bin .eql (.v 50) (.c (.i .i64 16))] [] (.ite (.v 51) (.ret [.c (.nil 1), .c (.i .i64 8)]) t_lockRun_82)))
def t_lockRun_84 : T :=
  .lets [.idx (.v 40) (.v 44) 0] [] (.lets [.len (.v 40)] [] (.lets [.bin .sub (.v 46) (.c (.i .i64 1))] [] (.lets [.sub 1 (.v 40) none (some (.v 47))] [] t_lockRun_83)))
def t_lockRun_85 : T :=
  .ite (.v 42) (.ret [.c (.nil 1), .c (.i .i64 8)]) (.lets [.len (.v 40)] [] (.lets [.bin .sub (.v 43) (.c (.i .i64 1))] [] (.lets [] [.inr 1 (.v 40) (.v 44)] t_lockRun_84)))
def t_lockRun_86 : T :=
  .lets [.bin .sub (.v 38) (.c (.i .i64 1))] [] (.lets [.sub 1 (.v 17) none (some (.v 39))] [] (.lets [.len (.v 40)] [] (.lets [.bin .eql (.v 41) (.c (.i .i64 0))] [] t_lockRun_85)))
def t_lockRun_87 : T :=
  .lets [.len (.v 17)] [] (.lets [.bin .sub (.v 35) (.c (.i .i64 1))] [] (.lets [] [.inr 1 (.v 17) (.v 36)] (.lets [.idx (.v 17) (.v 36) 0] [] (.lets [.len (.v 17)] []
  t_lockRun_86))))
def t_lockRun_88 : T :=
  .lets [.len (.v 17)] [] (.lets [.bin .eql (.v 33) (.c (.i .i64 0))] [] (.ite (.v 34) (.lets [.len (.v 17)] [] (.lets [.bin .eql (.v 35) (.c (.i .i64 0))] [] t_lockRun_80))
  t_lockRun_87))
def t_lockRun_89 : T :=
  .ite (.v 46) (.ret [.c (.nil 1), .c (.i .i64 8)]) (.lets [.mk 1 [[.v 42]]] [] (.lets [.app 1 (.v 41) (.v 47)] [] (.lets [.bin .add (.v 20) (.c (.i .i64 1))] [] (.again 1 [.v 48, .v
  18, .v 19, .v 49]))))
def t_lockRun_90 : T :=
  .lets [.bin .lss (.v 42) (.c (.i .i64 (-1000000)))] [] (.ite (.v 45) (.ret [.c (.nil 1), .c (.i .i64 8)]) (.lets [.bin .gtr (.v 42) (.c (.i .i64 1000000))] [] t_lockRun_89))
def t_lockRun_91 : T :=
  .lets [.call 46 [.v 38] 0] [] (.lets [.len (.v 41)] [] (.lets [.bin .eql (.v 43) (.c (.i .i64 16))] [] (.ite (.v 44) (.ret [.c (.nil 1), .c (.i .i64 8)]) t_lockRun_90)))
def t_lockRun_92 : T :=
  .lets [.idx (.v 17) (.v 37) 0] [] (.lets [.len (.v 17)] [] (.lets [.bin .sub (.v 39) (.c (.i .i64 1))] [] (.lets [.sub 1 (.v 17) none (some (.v 40))] [] t_lockRun_91)))
def t_lockRun_93 : T :=
  .ite (.v 35) (.ret [.c (.nil 1), .c (.i .i64 8)]) (.lets [.len (.v 17)] [] (.lets [.bin .sub (.v 36) (.c (.i .i64 1))] [] (.lets [] [.inr 1 (.v 17) (.v 37)] t_lockRun_92)))
def t_lockRun_94 : T :=
  .ite (.v 47) (.ret [.c (.nil 1), .c (.i .i64 8)]) (.lets [.mk 1 [[.v 43]]] [] (.lets [.app 1 (.v 42) (.v 48)] [] (.lets [.bin .add (.v 20) (.c (.i .i64 1))] [] (.again 1 [.v 49, .v
  18, .v 19, .v 50]))))
def t_lockRun_95 : T :=
  .lets [.bin .lss (.v 43) (.c (.i .i64 (-1000000)))] [] (.ite (.v 46) (.ret [.c (.nil 1), .c (.i .i64 8)]) (.lets [.bin .gtr (.v 43) (.c (.i .i64 1000000))] [] t_lockRun_94))
def t_lockRun_96 : T :=
  .lets [.call 48 [.v 39] 0] [] (.lets [.len (.v 42)] [] (.lets [.bin .eql (.v 44) (.c (.i .i64 16))] [] (.ite (.v 45) (.ret [.c (.nil 1), .c (.i .i64 8)]) t_lockRun_95)))
def t_lockRun_97 : T :=
  .lets [.idx (.v 17) (.v 38) 0] [] (.lets [.len (.v 17)] [] (.lets [.bin .sub (.v 40) (.c (.i .i64 1))] [] (.lets [.sub 1 (.v 17) none (some (.v 41))] [] t_lockRun_96)))
def t_lockRun_98 : T :=
  .ite (.v 36) (.ret [.c (.nil 1), .c (.i .i64 8)]) (.lets [.len (.v 17)] [] (.lets [.bin .sub (.v 37) (.c (.i .i64 1))] [] (.lets [] [.inr 1 (.v 17) (.v 38)] t_lockRun_97)))
def t_lockRun_99 : T :=
  .lets [.bin .eql (.v 40) (.c (.i .i64 0))] [] (.ite (.v 44) (.ret [.c (.nil 1), .c (.i .i64 8)]) (.lets [.bin .add (.v 20) (.c (.i .i64 1))] [] (.again 1 [.v 43, .v 18, .v 19, .v
  45])))
def t_lockRun_100 : T :=
  .lets [.idx (.v 17) (.v 39) 0] [] (.lets [.len (.v 17)] [] (.lets [.bin .sub (.v 41) (.c (.i .i64 1))] [] (.lets [.sub 1 (.v 17) none (some (.v 42))] [] t_lockRun_99)))
def t_lockRun_101 : T :=
  .ite (.v 37) (.ret [.c (.nil 1), .c (.i .i64 8)]) (.lets [.len (.v 17)] [] (.lets [.bin .sub (.v 38) (.c (.i .i64 1))] [] (.lets [] [.inr 1 (.v 17) (.v 39)] t_lockRun_100)))
def t_lockRun_102 : T :=
  .ite (.v 40) (.ret [.c (.nil 1), .c (.i .i64 8)]) (.lets [.mk 1 [[.v 2]]] [] (.lets [.app 1 (.v 17) (.v 41)] [] (.lets [.bin .add (.v 20) (.c (.i .i64 1))] [] (.again 1 [.v 42, .v
  18, .v 19, .v 43]))))
def t_lockRun_103 : T :=
  .lets [.bin .lss (.v 2) (.c (.i .i64 (-1000000)))] [] (.ite (.v 39) (.ret [.c (.nil 1), .c (.i .i64 8)]) (.lets [.bin .gtr (.v 2) (.c (.i .i64 1000000))] [] t_lockRun_102))
def t_lockRun_104 : T :=
  .ite (.v 36) (.lets [.len (.v 17)] [] (.lets [.bin .eql (.v 37) (.c (.i .i64 16))] [] (.ite (.v 38) (.ret [.c (.nil 1), .c (.i .i64 8)]) t_lockRun_103))) (.lets [.bin .add (.v 20)
  (.c (.i .i64 1))] [] (.again 1 [.v 17, .v 18, .v 19, .v 37]))
def t_lockRun_105 : T :=
  .ite (.v 35) (.lets [.len (.v 17)] [] (.lets [.bin .eql (.v 36) (.c (.i .i64 0))] [] t_lockRun_101)) (.lets [.bin .eql (.v 22) (.c (.i .i64 12))] [] t_lockRun_104)
def t_lockRun_106 : T :=
  .ite (.v 34) (.lets [.len (.v 17)] [] (.lets [.bin .eql (.v 35) (.c (.i .i64 0))] [] t_lockRun_98)) (.lets [.bin .eql (.v 22) (.c (.i .i64 11))] [] t_lockRun_105)
def t_lockRun_107 : T :=
  .ite (.v 33) (.lets [.len (.v 17)] [] (.lets [.bin .eql (.v 34) (.c (.i .i64 0))] [] t_lockRun_93)) (.lets [.bin .eql (.v 22) (.c (.i .i64 13))] [] t_lockRun_106)
def t_lockRun_108 : T :=
  .ite (.v 31) t_lockRun_78 (.lets [.bin .eql (.v 22) (.c (.i .i64 10))] [] (.ite (.v 32) t_lockRun_88 (.lets [.bin .eql (.v 22) (.c (.i .i64 9))] [] t_lockRun_107)))
def t_lockRun_109 : T :=
  .ite (.v 29) t_lockRun_58 (.lets [.bin .eql (.v 22) (.c (.i .i64 7))] [] (.ite (.v 30) t_lockRun_68 (.lets [.bin .eql (.v 22) (.c (.i .i64 8))] [] t_lockRun_108)))
def t_lockRun_110 : T :=
  .ite (.v 27) (.lets [.len (.v 17)] [] (.lets [.bin .eql (.v 28) (.c (.i .i64 0))] [] (.ite (.v 29) (.ret [.c (.nil 1), .c (.i .i64 8)]) t_lockRun_38))) (.lets [.bin .eql (.v 22) (.c
  (.i .i64 5))] [] (.ite (.v 28) t_lockRun_48 (.lets [.bin .eql (.v 22) (.c (.i .i64 6))] [] t_lockRun_109)))
def t_lockRun_111 : T :=
  .ite (.v 25) (.lets [.len (.v 17)] [] (.lets [.bin .eql (.v 26) (.c (.i .i64 0))] [] t_lockRun_17)) (.lets [.bin .eql (.v 22) (.c (.i .i64 3))] [] (.ite (.v 26) t_lockRun_36 (.lets
  [.bin .eql (.v 22) (.c (.i .i64 4))] [] t_lockRun_110)))
def t_lockRun_112 : T :=
  .ite (.v 24) (.lets [.len (.v 17)] [] (.lets [.bin .eql (.v 25) (.c (.i .i64 16))] [] (.ite (.v 26) (.ret [.c (.nil 1), .c (.i .i64 8)]) t_lockRun_3))) (.lets [.bin .eql (.v 22) (.c
  (.i .i64 2))] [] t_lockRun_111)
def t_lockRun_113 : T :=
  .ite (.v 21) (.lets [] [.inr 2 (.v 0) (.v 20)] (.lets [.idx (.v 0) (.v 20) 0, .idx (.v 0) (.v 20) 1] [] (.lets [.bin .eql (.v 22) (.c (.i .i64 1))] [] t_lockRun_112))) (.ret [.v 17,
  .c (.i .i64 0)])
def t_lockRun_114 : T :=
  .lets [.bin .lss (.v 14) (.v 11)] [] (.ite (.v 15) t_lockRun_1 (.lets [.len (.v 0)] [] (.loop [.v 10, .v 12, .v 13, .c (.i .i64 0)] (.lets [.bin .lss (.v 20) (.v 16)] []
  t_lockRun_113))))
def t_lockRun_115 : T :=
  .ite (.v 8) (.ret [.c (.nil 1), .c (.i .i64 3)]) (.lets [.mk 1 []] [] (.lets [.app 1 (.v 9) (.v 1)] [] (.lets [.len (.v 1)] [] (.loop [.c (.nil 1), .c (.i .i64 0), .c (.i .i64 0)]
  t_lockRun_114))))
def t_lockRun_116 : T :=
  .lets [.bin .gtr (.v 2) (.c (.i .i64 1000))] [] (.ite (.v 6) (.ret [.c (.nil 1), .c (.i .i64 3)]) (.lets [.len (.v 1)] [] (.lets [.bin .gtr (.v 7) (.c (.i .i64 16))] []
  t_lockRun_115)))
def t_lockRun_117 : T :=
  .lets [.bin .neq (.v 3) (.c (.i .i64 0))] [] (.ite (.v 4) (.ret [.c (.nil 1), .v 3]) (.lets [.bin .lss (.v 2) (.c (.i .i64 0))] [] (.ite (.v 5) (.ret [.c (.nil 1), .c (.i .i64 3)])
  t_lockRun_116)))
def t_lockRun : T :=
  .lets [.call 7 [.v 0] 0] [] t_lockRun_117
theorem m_lockRun : Meets Try.prog sp_lockRun 128 ⟨[.one, .one, .one], [(false, [.fresh 3 1]), (false, [.scal])], false⟩ := by
  refine meets_fin (sp := (spsOf [(7, sp_lockCheck), (41, sp_mAdd), (42, sp_mSub), (43, sp_mSame), (44, sp_mLess), (45, sp_mAnd), (46, sp_mNot), (48, sp_lockMix)])) (sigs := sigsA) (cut := []) (hints := [⟨8, [.r 6 3 1, .t 7, .t 38]⟩, ⟨14, [.c 35 0 360, .r 6 3 1, .t 7, .t 51, .o 32, .z 34, .z 32]⟩]) (fns := [fnOf 134 Try.f134 [] [], fnOf 148 Try.f148 [] [35], fnOf 149 Try.f149 [] [], fnOf 159 Try.f159 [] [], fnOf 147 Try.f147 [] [], fnOf 150 Try.f150 [] []]) (dep := 6) (pool := 300) (fn := Try.f128) (t := t_lockRun) (by kernel_rfl) (by kernel_rfl) (by kernel_rfl) ?_ ?_ ?_
  · exact (fnOk_cons (fn := Try.f134) (by kernel_rfl) (by kernel_rfl) (by kernel_rfl) (by kernel_rfl) (by kernel_rfl) (fnOk_cons (fn := Try.f148) (by kernel_rfl) (by kernel_rfl) (by kernel_rfl) (by kernel_rfl) (by kernel_rfl) (fnOk_cons (fn := Try.f149) (by kernel_rfl) (by kernel_rfl) (by kernel_rfl) (by kernel_rfl) (by kernel_rfl) (fnOk_cons (fn := Try.f159) (by kernel_rfl) (by kernel_rfl) (by kernel_rfl) (by kernel_rfl) (by kernel_rfl) (fnOk_cons (fn := Try.f147) (by kernel_rfl) (by kernel_rfl) (by kernel_rfl) (by kernel_rfl) (by kernel_rfl) (fnOk_cons (fn := Try.f150) (by kernel_rfl) (by kernel_rfl) (by kernel_rfl) (by kernel_rfl) (by kernel_rfl) fnOk_nil))))))
  · exact (sig_of (L := [(7, sp_lockCheck), (41, sp_mAdd), (42, sp_mSub), (43, sp_mSame), (44, sp_mLess), (45, sp_mAnd), (46, sp_mNot), (48, sp_lockMix)]) ⟨sig_at rfl m_lockCheck, sig_at rfl m_mAdd, sig_at rfl m_mSub, sig_at rfl m_mSame, sig_at rfl m_mLess, sig_at rfl m_mAnd, sig_at rfl m_mNot, sig_at rfl m_lockMix, trivial⟩)
  · rintro ds rs - h
    obtain ⟨⟨l, s0, ht⟩, hl0, rfl, rfl⟩ := spD_some h
    clear h
    simp only at hl0
    refine ⟨⟨l.length + s0.length + 1, ?_⟩, ?_⟩
    · show den _ _ t_lockRun [.l 2 (l.map eOp), .l 1 (s0.map eInt), I ht] [] = ret (runOf l s0 ht)
      unfold t_lockRun runOf
      repeat' (first | refine den_let1 (by first | exact dx_eql rfl rfl | exact dx_neq rfl rfl | exact dx_lss rfl rfl | exact dx_gtr rfl rfl | exact dx_geq rfl rfl | exact dx_leq rfl rfl | exact dx_len rfl | exact den_add rfl rfl (by omega) | exact den_sub rfl rfl (by omega) | exact dx_idx rfl rfl (by omega) (by first | assumption | exact hx) rfl | exact den_call rfl (sp_lockCheck_at _) rfl | exact dx_not rfl | exact dx_len0 rfl | exact dx_eqS rfl rfl | exact dx_neS rfl rfl | exact dx_eqB rfl rfl | exact dx_neB rfl rfl | exact dx_eqP rfl rfl rfl rfl | exact dx_neP rfl rfl rfl rfl | exact dx_neg rfl (by omega) | exact dx_cutl rfl rfl (by omega) (by omega) (by assumption) | exact den_mk (r := [[I _]]) rfl rfl (by simp) | exact dx_sel rfl rfl (by omega) rfl | exact dx_mn rfl rfl | exact dx_slen rfl | exact dx_app1 (fun _ => rfl) rfl rfl (by first | omega | (simp only [List.length_append, List.length_cons, List.length_nil]; omega))) ?_ | refine den_ck (by exact dx_inr rfl rfl (by omega) (by omega)) ?_ | refine den_lets (by first | exact dx_el rfl rfl (by omega) (by first | assumption | exact hx) (by rfl) | exact dx_calls rfl (sp_lockCheck_at _) (by rfl) | exact denXs_cons (dx_idx rfl rfl (by omega) (by first | assumption | exact hx) rfl) (denXs_cons (dx_idx rfl rfl (by omega) (by first | assumption | exact hx) rfl) denXs_nil)) ?_ (by simp only [eCoin, eTx, eIn, eOut, eOp, ePoint, eInt, eStr, eBlock, eTree, eBook, eUndo, eBool, List.cons_append, List.nil_append]; try exact rfl) | exact den_ret rfl rfl | refine den_ifR rfl (by with_reducible rfl) (fun h => ?_) (fun h => ?_) | refine den_ifB rfl (by with_reducible rfl) (fun h => ?_) (fun h => ?_) | refine den_ifC rfl (by with_reducible rfl) (fun h => ?_) (fun h => ?_) | refine den_ifBn rfl (by with_reducible rfl) (fun h => ?_) (fun h => ?_) | refine den_ifF rfl (by with_reducible rfl) (fun h => ?_) (fun h => ?_) | refine den_ifFn rfl (by with_reducible rfl) (fun h => ?_) (fun h => ?_) | refine den_ifAndOr rfl (by with_reducible rfl) (fun h => ?_) (fun h => ?_) | refine den_ifOrAnd rfl (by with_reducible rfl) (fun h => ?_) (fun h => ?_) | refine den_ifAnd rfl (by with_reducible rfl) (fun h => ?_) (fun h => ?_) | refine den_ifOr rfl (by with_reducible rfl) (fun h => ?_) (fun h => ?_) | refine den_band rfl (by with_reducible rfl) (fun h => ?_) (fun h => ?_) | refine den_bor rfl (by with_reducible rfl) (fun h => ?_) (fun h => ?_) | refine den_T rfl (by first | assumption | omega) ?_ | refine den_F rfl (by first | assumption | omega) ?_ | refine den_t rfl ?_ | refine den_f rfl ?_)
      have hc0 : opsCheck l = 0 := Decidable.not_not.1 (by assumption)
      refine den_let1 (den_mk (r := []) rfl rfl (by simp)) ?_
      refine den_let1 (dx_app (l := ([] : List Int)) (l' := s0) (f := eInt) rfl rfl (by simp; omega)) ?_
      repeat' (first | refine den_let1 (by first | exact dx_eql rfl rfl | exact dx_neq rfl rfl | exact dx_lss rfl rfl | exact dx_gtr rfl rfl | exact dx_geq rfl rfl | exact dx_leq rfl rfl | exact dx_len rfl | exact den_add rfl rfl (by omega) | exact den_sub rfl rfl (by omega) | exact dx_idx rfl rfl (by omega) (by first | assumption | exact hx) rfl | exact dx_not rfl | exact dx_len0 rfl | exact dx_eqS rfl rfl | exact dx_neS rfl rfl | exact dx_eqB rfl rfl | exact dx_neB rfl rfl | exact dx_eqP rfl rfl rfl rfl | exact dx_neP rfl rfl rfl rfl | exact dx_neg rfl (by omega) | exact dx_cutl rfl rfl (by omega) (by omega) (by assumption) | exact den_mk (r := [[I _]]) rfl rfl (by simp) | exact dx_sel rfl rfl (by omega) rfl | exact dx_mn rfl rfl | exact dx_slen rfl | exact dx_app1 (fun _ => rfl) rfl rfl (by first | omega | (simp only [List.length_append, List.length_cons, List.length_nil]; omega))) ?_ | refine den_ck (by exact dx_inr rfl rfl (by omega) (by omega)) ?_ | refine den_lets (by first | exact dx_el rfl rfl (by omega) (by first | assumption | exact hx) (by rfl) | exact denXs_cons (dx_idx rfl rfl (by omega) (by first | assumption | exact hx) rfl) (denXs_cons (dx_idx rfl rfl (by omega) (by first | assumption | exact hx) rfl) denXs_nil)) ?_ (by simp only [eCoin, eTx, eIn, eOut, eOp, ePoint, eInt, eStr, eBlock, eTree, eBook, eUndo, eBool, List.cons_append, List.nil_append]; try exact rfl) | exact den_ret rfl rfl | refine den_ifR rfl (by with_reducible rfl) (fun h => ?_) (fun h => ?_) | refine den_ifB rfl (by with_reducible rfl) (fun h => ?_) (fun h => ?_) | refine den_ifC rfl (by with_reducible rfl) (fun h => ?_) (fun h => ?_) | refine den_ifBn rfl (by with_reducible rfl) (fun h => ?_) (fun h => ?_) | refine den_ifF rfl (by with_reducible rfl) (fun h => ?_) (fun h => ?_) | refine den_ifFn rfl (by with_reducible rfl) (fun h => ?_) (fun h => ?_) | refine den_ifAndOr rfl (by with_reducible rfl) (fun h => ?_) (fun h => ?_) | refine den_ifOrAnd rfl (by with_reducible rfl) (fun h => ?_) (fun h => ?_) | refine den_ifAnd rfl (by with_reducible rfl) (fun h => ?_) (fun h => ?_) | refine den_ifOr rfl (by with_reducible rfl) (fun h => ?_) (fun h => ?_) | refine den_band rfl (by with_reducible rfl) (fun h => ?_) (fun h => ?_) | refine den_bor rfl (by with_reducible rfl) (fun h => ?_) (fun h => ?_) | refine den_T rfl (by first | assumption | omega) ?_ | refine den_F rfl (by first | assumption | omega) ?_ | refine den_t rfl ?_ | refine den_f rfl ?_)
      (refine den_range (fun (_ : Unit) k => [.l 1 (([] : List Int).map eInt), I 0, I k]) (fun (_ : Unit) _ (r : List Int) => if ∀ x ∈ r, Fits x then (match runM ht s0 l with | none => (([] : List Int), (8 : Int)) | some s' => (s', 0)) else (([] : List Int), (3 : Int))) (fun _ k => ∀ x ∈ s0.take k, Fits x) () s0 ?_ ?_ ?_ ?_ ?_; rfl; exact (fun x hx => by simp at hx); omega)
      · rintro _ k x r hx hd hk hp again hag
        repeat' (first | refine den_let1 (by first | exact dx_eql rfl rfl | exact dx_neq rfl rfl | exact dx_lss rfl rfl | exact dx_gtr rfl rfl | exact dx_geq rfl rfl | exact dx_leq rfl rfl | exact dx_len rfl | exact den_add rfl rfl (by omega) | exact den_sub rfl rfl (by omega) | exact dx_idx rfl rfl (by omega) (by first | assumption | exact hx) rfl | exact dx_not rfl | exact dx_len0 rfl | exact dx_eqS rfl rfl | exact dx_neS rfl rfl | exact dx_eqB rfl rfl | exact dx_neB rfl rfl | exact dx_eqP rfl rfl rfl rfl | exact dx_neP rfl rfl rfl rfl | exact dx_neg rfl (by omega) | exact dx_cutl rfl rfl (by omega) (by omega) (by assumption) | exact den_mk (r := [[I _]]) rfl rfl (by simp) | exact dx_sel rfl rfl (by omega) rfl | exact dx_mn rfl rfl | exact dx_slen rfl | exact dx_app1 (fun _ => rfl) rfl rfl (by first | omega | (simp only [List.length_append, List.length_cons, List.length_nil]; omega))) ?_ | refine den_ck (by exact dx_inr rfl rfl (by omega) (by omega)) ?_ | refine den_lets (by first | exact dx_el rfl rfl (by omega) (by first | assumption | exact hx) (by rfl) | exact denXs_cons (dx_idx rfl rfl (by omega) (by first | assumption | exact hx) rfl) (denXs_cons (dx_idx rfl rfl (by omega) (by first | assumption | exact hx) rfl) denXs_nil)) ?_ (by simp only [eCoin, eTx, eIn, eOut, eOp, ePoint, eInt, eStr, eBlock, eTree, eBook, eUndo, eBool, List.cons_append, List.nil_append]; try exact rfl) | exact den_ret rfl rfl | refine den_ifR rfl (by with_reducible rfl) (fun h => ?_) (fun h => ?_) | refine den_ifB rfl (by with_reducible rfl) (fun h => ?_) (fun h => ?_) | refine den_ifC rfl (by with_reducible rfl) (fun h => ?_) (fun h => ?_) | refine den_ifBn rfl (by with_reducible rfl) (fun h => ?_) (fun h => ?_) | refine den_ifF rfl (by with_reducible rfl) (fun h => ?_) (fun h => ?_) | refine den_ifFn rfl (by with_reducible rfl) (fun h => ?_) (fun h => ?_) | refine den_ifAndOr rfl (by with_reducible rfl) (fun h => ?_) (fun h => ?_) | refine den_ifOrAnd rfl (by with_reducible rfl) (fun h => ?_) (fun h => ?_) | refine den_ifAnd rfl (by with_reducible rfl) (fun h => ?_) (fun h => ?_) | refine den_ifOr rfl (by with_reducible rfl) (fun h => ?_) (fun h => ?_) | refine den_band rfl (by with_reducible rfl) (fun h => ?_) (fun h => ?_) | refine den_bor rfl (by with_reducible rfl) (fun h => ?_) (fun h => ?_) | refine den_T rfl (by first | assumption | omega) ?_ | refine den_F rfl (by first | assumption | omega) ?_ | refine den_t rfl ?_ | refine den_f rfl ?_)
        refine den_sp rfl (fun h => ?_) (fun h => ?_)
        · rw [if_neg (fun hh => by have := (hh x (List.mem_cons_self ..)).1; omega)]
          repeat' (first | refine den_let1 (by first | exact dx_eql rfl rfl | exact dx_neq rfl rfl | exact dx_lss rfl rfl | exact dx_gtr rfl rfl | exact dx_geq rfl rfl | exact dx_leq rfl rfl | exact dx_len rfl | exact den_add rfl rfl (by omega) | exact den_sub rfl rfl (by omega) | exact dx_idx rfl rfl (by omega) (by first | assumption | exact hx) rfl | exact dx_not rfl | exact dx_len0 rfl | exact dx_eqS rfl rfl | exact dx_neS rfl rfl | exact dx_eqB rfl rfl | exact dx_neB rfl rfl | exact dx_eqP rfl rfl rfl rfl | exact dx_neP rfl rfl rfl rfl | exact dx_neg rfl (by omega) | exact dx_cutl rfl rfl (by omega) (by omega) (by assumption) | exact den_mk (r := [[I _]]) rfl rfl (by simp) | exact dx_sel rfl rfl (by omega) rfl | exact dx_mn rfl rfl | exact dx_slen rfl | exact dx_app1 (fun _ => rfl) rfl rfl (by first | omega | (simp only [List.length_append, List.length_cons, List.length_nil]; omega))) ?_ | refine den_ck (by exact dx_inr rfl rfl (by omega) (by omega)) ?_ | refine den_lets (by first | exact dx_el rfl rfl (by omega) (by first | assumption | exact hx) (by rfl) | exact denXs_cons (dx_idx rfl rfl (by omega) (by first | assumption | exact hx) rfl) (denXs_cons (dx_idx rfl rfl (by omega) (by first | assumption | exact hx) rfl) denXs_nil)) ?_ (by simp only [eCoin, eTx, eIn, eOut, eOp, ePoint, eInt, eStr, eBlock, eTree, eBook, eUndo, eBool, List.cons_append, List.nil_append]; try exact rfl) | exact den_ret rfl rfl | refine den_ifR rfl (by with_reducible rfl) (fun h => ?_) (fun h => ?_) | refine den_ifB rfl (by with_reducible rfl) (fun h => ?_) (fun h => ?_) | refine den_ifC rfl (by with_reducible rfl) (fun h => ?_) (fun h => ?_) | refine den_ifBn rfl (by with_reducible rfl) (fun h => ?_) (fun h => ?_) | refine den_ifF rfl (by with_reducible rfl) (fun h => ?_) (fun h => ?_) | refine den_ifFn rfl (by with_reducible rfl) (fun h => ?_) (fun h => ?_) | refine den_ifAndOr rfl (by with_reducible rfl) (fun h => ?_) (fun h => ?_) | refine den_ifOrAnd rfl (by with_reducible rfl) (fun h => ?_) (fun h => ?_) | refine den_ifAnd rfl (by with_reducible rfl) (fun h => ?_) (fun h => ?_) | refine den_ifOr rfl (by with_reducible rfl) (fun h => ?_) (fun h => ?_) | refine den_band rfl (by with_reducible rfl) (fun h => ?_) (fun h => ?_) | refine den_bor rfl (by with_reducible rfl) (fun h => ?_) (fun h => ?_) | refine den_T rfl (by first | assumption | omega) ?_ | refine den_F rfl (by first | assumption | omega) ?_ | refine den_t rfl ?_ | refine den_f rfl ?_)
        repeat' (first | refine den_let1 (by first | exact dx_eql rfl rfl | exact dx_neq rfl rfl | exact dx_lss rfl rfl | exact dx_gtr rfl rfl | exact dx_geq rfl rfl | exact dx_leq rfl rfl | exact dx_len rfl | exact den_add rfl rfl (by omega) | exact den_sub rfl rfl (by omega) | exact dx_idx rfl rfl (by omega) (by first | assumption | exact hx) rfl | exact dx_not rfl | exact dx_len0 rfl | exact dx_eqS rfl rfl | exact dx_neS rfl rfl | exact dx_eqB rfl rfl | exact dx_neB rfl rfl | exact dx_eqP rfl rfl rfl rfl | exact dx_neP rfl rfl rfl rfl | exact dx_neg rfl (by omega) | exact dx_cutl rfl rfl (by omega) (by omega) (by assumption) | exact den_mk (r := [[I _]]) rfl rfl (by simp) | exact dx_sel rfl rfl (by omega) rfl | exact dx_mn rfl rfl | exact dx_slen rfl | exact dx_app1 (fun _ => rfl) rfl rfl (by first | omega | (simp only [List.length_append, List.length_cons, List.length_nil]; omega))) ?_ | refine den_ck (by exact dx_inr rfl rfl (by omega) (by omega)) ?_ | refine den_lets (by first | exact dx_el rfl rfl (by omega) (by first | assumption | exact hx) (by rfl) | exact denXs_cons (dx_idx rfl rfl (by omega) (by first | assumption | exact hx) rfl) (denXs_cons (dx_idx rfl rfl (by omega) (by first | assumption | exact hx) rfl) denXs_nil)) ?_ (by simp only [eCoin, eTx, eIn, eOut, eOp, ePoint, eInt, eStr, eBlock, eTree, eBook, eUndo, eBool, List.cons_append, List.nil_append]; try exact rfl) | exact den_ret rfl rfl | refine den_ifR rfl (by with_reducible rfl) (fun h => ?_) (fun h => ?_) | refine den_ifB rfl (by with_reducible rfl) (fun h => ?_) (fun h => ?_) | refine den_ifC rfl (by with_reducible rfl) (fun h => ?_) (fun h => ?_) | refine den_ifBn rfl (by with_reducible rfl) (fun h => ?_) (fun h => ?_) | refine den_ifF rfl (by with_reducible rfl) (fun h => ?_) (fun h => ?_) | refine den_ifFn rfl (by with_reducible rfl) (fun h => ?_) (fun h => ?_) | refine den_ifAndOr rfl (by with_reducible rfl) (fun h => ?_) (fun h => ?_) | refine den_ifOrAnd rfl (by with_reducible rfl) (fun h => ?_) (fun h => ?_) | refine den_ifAnd rfl (by with_reducible rfl) (fun h => ?_) (fun h => ?_) | refine den_ifOr rfl (by with_reducible rfl) (fun h => ?_) (fun h => ?_) | refine den_band rfl (by with_reducible rfl) (fun h => ?_) (fun h => ?_) | refine den_bor rfl (by with_reducible rfl) (fun h => ?_) (fun h => ?_) | refine den_T rfl (by first | assumption | omega) ?_ | refine den_F rfl (by first | assumption | omega) ?_ | refine den_t rfl ?_ | refine den_f rfl ?_)
        refine den_sp rfl (fun h => ?_) (fun h => ?_)
        · rw [if_neg (fun hh => by have := (hh x (List.mem_cons_self ..)).2; omega)]
          repeat' (first | refine den_let1 (by first | exact dx_eql rfl rfl | exact dx_neq rfl rfl | exact dx_lss rfl rfl | exact dx_gtr rfl rfl | exact dx_geq rfl rfl | exact dx_leq rfl rfl | exact dx_len rfl | exact den_add rfl rfl (by omega) | exact den_sub rfl rfl (by omega) | exact dx_idx rfl rfl (by omega) (by first | assumption | exact hx) rfl | exact dx_not rfl | exact dx_len0 rfl | exact dx_eqS rfl rfl | exact dx_neS rfl rfl | exact dx_eqB rfl rfl | exact dx_neB rfl rfl | exact dx_eqP rfl rfl rfl rfl | exact dx_neP rfl rfl rfl rfl | exact dx_neg rfl (by omega) | exact dx_cutl rfl rfl (by omega) (by omega) (by assumption) | exact den_mk (r := [[I _]]) rfl rfl (by simp) | exact dx_sel rfl rfl (by omega) rfl | exact dx_mn rfl rfl | exact dx_slen rfl | exact dx_app1 (fun _ => rfl) rfl rfl (by first | omega | (simp only [List.length_append, List.length_cons, List.length_nil]; omega))) ?_ | refine den_ck (by exact dx_inr rfl rfl (by omega) (by omega)) ?_ | refine den_lets (by first | exact dx_el rfl rfl (by omega) (by first | assumption | exact hx) (by rfl) | exact denXs_cons (dx_idx rfl rfl (by omega) (by first | assumption | exact hx) rfl) (denXs_cons (dx_idx rfl rfl (by omega) (by first | assumption | exact hx) rfl) denXs_nil)) ?_ (by simp only [eCoin, eTx, eIn, eOut, eOp, ePoint, eInt, eStr, eBlock, eTree, eBook, eUndo, eBool, List.cons_append, List.nil_append]; try exact rfl) | exact den_ret rfl rfl | refine den_ifR rfl (by with_reducible rfl) (fun h => ?_) (fun h => ?_) | refine den_ifB rfl (by with_reducible rfl) (fun h => ?_) (fun h => ?_) | refine den_ifC rfl (by with_reducible rfl) (fun h => ?_) (fun h => ?_) | refine den_ifBn rfl (by with_reducible rfl) (fun h => ?_) (fun h => ?_) | refine den_ifF rfl (by with_reducible rfl) (fun h => ?_) (fun h => ?_) | refine den_ifFn rfl (by with_reducible rfl) (fun h => ?_) (fun h => ?_) | refine den_ifAndOr rfl (by with_reducible rfl) (fun h => ?_) (fun h => ?_) | refine den_ifOrAnd rfl (by with_reducible rfl) (fun h => ?_) (fun h => ?_) | refine den_ifAnd rfl (by with_reducible rfl) (fun h => ?_) (fun h => ?_) | refine den_ifOr rfl (by with_reducible rfl) (fun h => ?_) (fun h => ?_) | refine den_band rfl (by with_reducible rfl) (fun h => ?_) (fun h => ?_) | refine den_bor rfl (by with_reducible rfl) (fun h => ?_) (fun h => ?_) | refine den_T rfl (by first | assumption | omega) ?_ | refine den_F rfl (by first | assumption | omega) ?_ | refine den_t rfl ?_ | refine den_f rfl ?_)
        repeat' (first | refine den_let1 (by first | exact dx_eql rfl rfl | exact dx_neq rfl rfl | exact dx_lss rfl rfl | exact dx_gtr rfl rfl | exact dx_geq rfl rfl | exact dx_leq rfl rfl | exact dx_len rfl | exact den_add rfl rfl (by omega) | exact den_sub rfl rfl (by omega) | exact dx_idx rfl rfl (by omega) (by first | assumption | exact hx) rfl | exact dx_not rfl | exact dx_len0 rfl | exact dx_eqS rfl rfl | exact dx_neS rfl rfl | exact dx_eqB rfl rfl | exact dx_neB rfl rfl | exact dx_eqP rfl rfl rfl rfl | exact dx_neP rfl rfl rfl rfl | exact dx_neg rfl (by omega) | exact dx_cutl rfl rfl (by omega) (by omega) (by assumption) | exact den_mk (r := [[I _]]) rfl rfl (by simp) | exact dx_sel rfl rfl (by omega) rfl | exact dx_mn rfl rfl | exact dx_slen rfl | exact dx_app1 (fun _ => rfl) rfl rfl (by first | omega | (simp only [List.length_append, List.length_cons, List.length_nil]; omega))) ?_ | refine den_ck (by exact dx_inr rfl rfl (by omega) (by omega)) ?_ | refine den_lets (by first | exact dx_el rfl rfl (by omega) (by first | assumption | exact hx) (by rfl) | exact denXs_cons (dx_idx rfl rfl (by omega) (by first | assumption | exact hx) rfl) (denXs_cons (dx_idx rfl rfl (by omega) (by first | assumption | exact hx) rfl) denXs_nil)) ?_ (by simp only [eCoin, eTx, eIn, eOut, eOp, ePoint, eInt, eStr, eBlock, eTree, eBook, eUndo, eBool, List.cons_append, List.nil_append]; try exact rfl) | exact den_ret rfl rfl | refine den_ifR rfl (by with_reducible rfl) (fun h => ?_) (fun h => ?_) | refine den_ifB rfl (by with_reducible rfl) (fun h => ?_) (fun h => ?_) | refine den_ifC rfl (by with_reducible rfl) (fun h => ?_) (fun h => ?_) | refine den_ifBn rfl (by with_reducible rfl) (fun h => ?_) (fun h => ?_) | refine den_ifF rfl (by with_reducible rfl) (fun h => ?_) (fun h => ?_) | refine den_ifFn rfl (by with_reducible rfl) (fun h => ?_) (fun h => ?_) | refine den_ifAndOr rfl (by with_reducible rfl) (fun h => ?_) (fun h => ?_) | refine den_ifOrAnd rfl (by with_reducible rfl) (fun h => ?_) (fun h => ?_) | refine den_ifAnd rfl (by with_reducible rfl) (fun h => ?_) (fun h => ?_) | refine den_ifOr rfl (by with_reducible rfl) (fun h => ?_) (fun h => ?_) | refine den_band rfl (by with_reducible rfl) (fun h => ?_) (fun h => ?_) | refine den_bor rfl (by with_reducible rfl) (fun h => ?_) (fun h => ?_) | refine den_T rfl (by first | assumption | omega) ?_ | refine den_F rfl (by first | assumption | omega) ?_ | refine den_t rfl ?_ | refine den_f rfl ?_)
        refine den_again rfl rfl ((hag () ?_).trans ?_)
        · intro y hy
          rw [List.take_add_one, hx] at hy
          rcases List.mem_append.1 hy with hy | hy
          · exact hp y hy
          · simp only [Option.toList_some, List.mem_singleton] at hy; subst hy; exact ⟨by omega, by omega⟩
        · have : (∀ y ∈ x :: r, Fits y) ↔ ∀ y ∈ r, Fits y := by
            simp only [List.mem_cons, forall_eq_or_imp]
            exact ⟨fun h => h.2, fun h => ⟨⟨by omega, by omega⟩, h⟩⟩
          simp only [this]
      · rintro _ hp again
        rw [List.take_length] at hp
        rw [if_pos (by simp)]
        repeat' (first | refine den_let1 (by first | exact dx_eql rfl rfl | exact dx_neq rfl rfl | exact dx_lss rfl rfl | exact dx_gtr rfl rfl | exact dx_geq rfl rfl | exact dx_leq rfl rfl | exact dx_len rfl | exact den_add rfl rfl (by omega) | exact den_sub rfl rfl (by omega) | exact dx_idx rfl rfl (by omega) (by first | assumption | exact hx) rfl | exact dx_not rfl | exact dx_len0 rfl | exact dx_eqS rfl rfl | exact dx_neS rfl rfl | exact dx_eqB rfl rfl | exact dx_neB rfl rfl | exact dx_eqP rfl rfl rfl rfl | exact dx_neP rfl rfl rfl rfl | exact dx_neg rfl (by omega) | exact dx_cutl rfl rfl (by omega) (by omega) (by assumption) | exact den_mk (r := [[I _]]) rfl rfl (by simp) | exact dx_sel rfl rfl (by omega) rfl | exact dx_mn rfl rfl | exact dx_slen rfl | exact dx_app1 (fun _ => rfl) rfl rfl (by first | omega | (simp only [List.length_append, List.length_cons, List.length_nil]; omega))) ?_ | refine den_ck (by exact dx_inr rfl rfl (by omega) (by omega)) ?_ | refine den_lets (by first | exact dx_el rfl rfl (by omega) (by first | assumption | exact hx) (by rfl) | exact denXs_cons (dx_idx rfl rfl (by omega) (by first | assumption | exact hx) rfl) (denXs_cons (dx_idx rfl rfl (by omega) (by first | assumption | exact hx) rfl) denXs_nil)) ?_ (by simp only [eCoin, eTx, eIn, eOut, eOp, ePoint, eInt, eStr, eBlock, eTree, eBook, eUndo, eBool, List.cons_append, List.nil_append]; try exact rfl) | exact den_ret rfl rfl | refine den_ifR rfl (by with_reducible rfl) (fun h => ?_) (fun h => ?_) | refine den_ifB rfl (by with_reducible rfl) (fun h => ?_) (fun h => ?_) | refine den_ifC rfl (by with_reducible rfl) (fun h => ?_) (fun h => ?_) | refine den_ifBn rfl (by with_reducible rfl) (fun h => ?_) (fun h => ?_) | refine den_ifF rfl (by with_reducible rfl) (fun h => ?_) (fun h => ?_) | refine den_ifFn rfl (by with_reducible rfl) (fun h => ?_) (fun h => ?_) | refine den_ifAndOr rfl (by with_reducible rfl) (fun h => ?_) (fun h => ?_) | refine den_ifOrAnd rfl (by with_reducible rfl) (fun h => ?_) (fun h => ?_) | refine den_ifAnd rfl (by with_reducible rfl) (fun h => ?_) (fun h => ?_) | refine den_ifOr rfl (by with_reducible rfl) (fun h => ?_) (fun h => ?_) | refine den_band rfl (by with_reducible rfl) (fun h => ?_) (fun h => ?_) | refine den_bor rfl (by with_reducible rfl) (fun h => ?_) (fun h => ?_) | refine den_T rfl (by first | assumption | omega) ?_ | refine den_F rfl (by first | assumption | omega) ?_ | refine den_t rfl ?_ | refine den_f rfl ?_)
        (refine den_range (fun (s : List Int) k => [.l 1 (s.map eInt), .l 1 (([] : List Int).map eInt), I 0, I k]) (fun (s : List Int) _ (r : List Op) => (match runM ht s r with | none => (([] : List Int), (8 : Int)) | some s' => (s', 0))) (fun s _ => StackOK s) s0 l ?_ ?_ ?_ ?_ ?_; rfl; exact ⟨by omega, hp⟩; omega)
        · rintro s k o r hx hd hk hs again' hag
          have hF : stepM ht s o = none → (match runM ht s (o :: r) with | none => (([] : List Int), (8 : Int)) | some s' => (s', 0)) = ([], 8) := fun e => by rw [runM, e]
          have hO : ∀ s', stepM ht s o = some s' → again' [.l 1 (s'.map eInt), .l 1 (([] : List Int).map eInt), I 0, I ((k : Int) + 1)] = ret (match runM ht s (o :: r) with | none => (([] : List Int), (8 : Int)) | some s' => (s', 0)) := fun s' e => by rw [runM, e]; exact hag s' (stepM_ok hs e)
          generalize (match runM ht s (o :: r) with | none => (([] : List Int), (8 : Int)) | some s' => (s', 0)) = R at hF hO ⊢
          have hsl := hs.1
          have hfit := hs
          have hll : l.length ≤ 16 := opsCheck_len hc0
          clear hag hd hp hs
          have hk13 : o.kind = 1 ∨ o.kind = 2 ∨ o.kind = 3 ∨ o.kind = 4 ∨ o.kind = 5 ∨ o.kind = 6 ∨ o.kind = 7 ∨ o.kind = 8 ∨ o.kind = 9 ∨ o.kind = 10 ∨ o.kind = 11 ∨ o.kind = 12 ∨ o.kind = 13 ∨ (o.kind ≠ 1 ∧ o.kind ≠ 2 ∧ o.kind ≠ 3 ∧ o.kind ≠ 4 ∧ o.kind ≠ 5 ∧ o.kind ≠ 6 ∧ o.kind ≠ 7 ∧ o.kind ≠ 8 ∧ o.kind ≠ 9 ∧ o.kind ≠ 10 ∧ o.kind ≠ 11 ∧ o.kind ≠ 12 ∧ o.kind ≠ 13) := by omega
          have hcase : (s.length = 0 ∧ popM s = none) ∨ (∃ a t, Fits a ∧ popM s = some (a, t) ∧ (s.length : Int) = t.length + 1 ∧ s[((s.length : Int) - 1).toNat]? = some a ∧ s.take ((s.length : Int) - 1).toNat = t ∧ ((t.length = 0 ∧ popM t = none) ∨ ∃ b u, Fits b ∧ popM t = some (b, u) ∧ (t.length : Int) = u.length + 1 ∧ t[((t.length : Int) - 1).toNat]? = some b ∧ t.take ((t.length : Int) - 1).toNat = u)) := by
            by_cases h0 : s.length = 0
            · exact .inl ⟨h0, popM_none h0⟩
            · obtain ⟨a, t, p1, p2, p3, p4, p5⟩ := popM_some h0
              have f1 := popM_ok hfit p1
              refine .inr ⟨a, t, f1.1, p1, p3, p4, p5, ?_⟩
              by_cases h1 : t.length = 0
              · exact .inl ⟨h1, popM_none h1⟩
              · obtain ⟨b, u, q1, q2, q3, q4, q5⟩ := popM_some h1
                exact .inr ⟨b, u, (popM_ok f1.2 q1).1, q1, q3, q4, q5⟩
          rcases hk13 with hk | hk | hk | hk | hk | hk | hk | hk | hk | hk | hk | hk | hk | hk
          all_goals
            try simp only [stepM, hk, Int.reduceEq, if_true, if_false] at hF hO
            rcases hcase with ⟨c1, c2⟩ | ⟨a, t, fa, p1, p3, p4, p5, ⟨c1, c2⟩ | ⟨b, u, fb, q1, q3, q4, q5⟩⟩
            · try simp only [c2, twoM, oneM, Option.bind_none] at hF hO
              repeat' (first | refine den_let1 (by first | exact dx_eql rfl rfl | exact dx_neq rfl rfl | exact dx_lss rfl rfl | exact dx_gtr rfl rfl | exact dx_geq rfl rfl | exact dx_leq rfl rfl | exact dx_len rfl | exact den_add rfl rfl (by omega) | exact den_sub rfl rfl (by omega) | exact dx_idx rfl rfl (by omega) (by first | assumption | exact hx) rfl | exact den_call rfl (sp_lockMix_at _ (by assumption)) rfl | exact den_call rfl (sp_mAdd_at _ _ ⟨by assumption, by assumption⟩) rfl | exact den_call rfl (sp_mSub_at _ _ ⟨by assumption, by assumption⟩) rfl | exact den_call rfl (sp_mSame_at _ _) rfl | exact den_call rfl (sp_mLess_at _ _) rfl | exact den_call rfl (sp_mAnd_at _ _) rfl | exact den_call rfl (sp_mNot_at _) rfl | exact dx_not rfl | exact dx_len0 rfl | exact dx_eqS rfl rfl | exact dx_neS rfl rfl | exact dx_eqB rfl rfl | exact dx_neB rfl rfl | exact dx_eqP rfl rfl rfl rfl | exact dx_neP rfl rfl rfl rfl | exact dx_neg rfl (by omega) | exact dx_cutl rfl rfl (by omega) (by omega) (by assumption) | exact den_mk (r := [[I _]]) rfl rfl (by simp) | exact dx_sel rfl rfl (by omega) rfl | exact dx_mn rfl rfl | exact dx_slen rfl | exact dx_app1 (fun _ => rfl) rfl rfl (by first | omega | (simp only [List.length_append, List.length_cons, List.length_nil]; omega))) ?_ | refine den_ck (by exact dx_inr rfl rfl (by omega) (by omega)) ?_ | refine den_lets (by first | exact dx_el rfl rfl (by omega) (by first | assumption | exact hx) (by rfl) | exact dx_calls rfl (sp_lockMix_at _ (by assumption)) (by rfl) | exact dx_calls rfl (sp_mAdd_at _ _ ⟨by assumption, by assumption⟩) (by rfl) | exact dx_calls rfl (sp_mSub_at _ _ ⟨by assumption, by assumption⟩) (by rfl) | exact dx_calls rfl (sp_mSame_at _ _) (by rfl) | exact dx_calls rfl (sp_mLess_at _ _) (by rfl) | exact dx_calls rfl (sp_mAnd_at _ _) (by rfl) | exact dx_calls rfl (sp_mNot_at _) (by rfl) | exact denXs_cons (dx_idx rfl rfl (by omega) (by first | assumption | exact hx) rfl) (denXs_cons (dx_idx rfl rfl (by omega) (by first | assumption | exact hx) rfl) denXs_nil)) ?_ (by simp only [eCoin, eTx, eIn, eOut, eOp, ePoint, eInt, eStr, eBlock, eTree, eBook, eUndo, eBool, List.cons_append, List.nil_append]; try exact rfl) | refine den_T rfl (by first | assumption | omega) ?_ | refine den_F rfl (by first | assumption | omega) ?_ | refine den_t rfl ?_ | refine den_f rfl ?_ | exact den_ret rfl (by rw [hF (by (repeat' (first | rfl | rw [pushM_none (by omega)] | rw [pushM_some (by omega) (by omega) (by omega)] | rw [if_pos (by omega)] | rw [if_neg (by omega)] | simp only [Option.bind_some, Option.bind_none])))]; rfl) | exact den_ret rfl (by rw [hF]; rfl) | exact den_ret rfl (by rw [hF trivial]; rfl) | exact den_again rfl rfl (hO _ (by (repeat' (first | rfl | rw [pushM_none (by omega)] | rw [pushM_some (by omega) (by omega) (by omega)] | rw [if_pos (by omega)] | rw [if_neg (by omega)] | simp only [Option.bind_some, Option.bind_none])))) | refine den_sp rfl (fun h => ?_) (fun h => ?_))
            · try simp only [p1, c2, twoM, oneM, Option.bind_none, Option.bind_some] at hF hO
              obtain ⟨fa1, fa2⟩ := id fa
              repeat' (first | refine den_let1 (by first | exact dx_eql rfl rfl | exact dx_neq rfl rfl | exact dx_lss rfl rfl | exact dx_gtr rfl rfl | exact dx_geq rfl rfl | exact dx_leq rfl rfl | exact dx_len rfl | exact den_add rfl rfl (by omega) | exact den_sub rfl rfl (by omega) | exact dx_idx rfl rfl (by omega) (by first | assumption | exact hx) rfl | exact den_call rfl (sp_lockMix_at _ (by assumption)) rfl | exact den_call rfl (sp_mAdd_at _ _ ⟨by assumption, by assumption⟩) rfl | exact den_call rfl (sp_mSub_at _ _ ⟨by assumption, by assumption⟩) rfl | exact den_call rfl (sp_mSame_at _ _) rfl | exact den_call rfl (sp_mLess_at _ _) rfl | exact den_call rfl (sp_mAnd_at _ _) rfl | exact den_call rfl (sp_mNot_at _) rfl | exact dx_not rfl | exact dx_len0 rfl | exact dx_eqS rfl rfl | exact dx_neS rfl rfl | exact dx_eqB rfl rfl | exact dx_neB rfl rfl | exact dx_eqP rfl rfl rfl rfl | exact dx_neP rfl rfl rfl rfl | exact dx_neg rfl (by omega) | exact dx_cutl rfl rfl (by omega) (by omega) (by assumption) | exact den_mk (r := [[I _]]) rfl rfl (by simp) | exact dx_sel rfl rfl (by omega) rfl | exact dx_mn rfl rfl | exact dx_slen rfl | exact dx_app1 (fun _ => rfl) rfl rfl (by first | omega | (simp only [List.length_append, List.length_cons, List.length_nil]; omega))) ?_ | refine den_ck (by exact dx_inr rfl rfl (by omega) (by omega)) ?_ | refine den_lets (by first | exact dx_el rfl rfl (by omega) (by first | assumption | exact hx) (by rfl) | exact dx_calls rfl (sp_lockMix_at _ (by assumption)) (by rfl) | exact dx_calls rfl (sp_mAdd_at _ _ ⟨by assumption, by assumption⟩) (by rfl) | exact dx_calls rfl (sp_mSub_at _ _ ⟨by assumption, by assumption⟩) (by rfl) | exact dx_calls rfl (sp_mSame_at _ _) (by rfl) | exact dx_calls rfl (sp_mLess_at _ _) (by rfl) | exact dx_calls rfl (sp_mAnd_at _ _) (by rfl) | exact dx_calls rfl (sp_mNot_at _) (by rfl) | exact denXs_cons (dx_idx rfl rfl (by omega) (by first | assumption | exact hx) rfl) (denXs_cons (dx_idx rfl rfl (by omega) (by first | assumption | exact hx) rfl) denXs_nil)) ?_ (by simp only [eCoin, eTx, eIn, eOut, eOp, ePoint, eInt, eStr, eBlock, eTree, eBook, eUndo, eBool, List.cons_append, List.nil_append]; try exact rfl) | refine den_T rfl (by first | assumption | omega) ?_ | refine den_F rfl (by first | assumption | omega) ?_ | refine den_t rfl ?_ | refine den_f rfl ?_ | exact den_ret rfl (by rw [hF (by (repeat' (first | rfl | rw [pushM_none (by omega)] | rw [pushM_some (by omega) (by omega) (by omega)] | rw [if_pos (by omega)] | rw [if_neg (by omega)] | simp only [Option.bind_some, Option.bind_none])))]; rfl) | exact den_ret rfl (by rw [hF]; rfl) | exact den_ret rfl (by rw [hF trivial]; rfl) | exact den_again rfl rfl (hO _ (by (repeat' (first | rfl | rw [pushM_none (by omega)] | rw [pushM_some (by omega) (by omega) (by omega)] | rw [if_pos (by omega)] | rw [if_neg (by omega)] | simp only [Option.bind_some, Option.bind_none])))) | refine den_sp rfl (fun h => ?_) (fun h => ?_))
            · try simp only [p1, q1, twoM, oneM, Option.bind_none, Option.bind_some] at hF hO
              obtain ⟨fa1, fa2⟩ := id fa
              obtain ⟨fb1, fb2⟩ := id fb
              repeat' (first | refine den_let1 (by first | exact dx_eql rfl rfl | exact dx_neq rfl rfl | exact dx_lss rfl rfl | exact dx_gtr rfl rfl | exact dx_geq rfl rfl | exact dx_leq rfl rfl | exact dx_len rfl | exact den_add rfl rfl (by omega) | exact den_sub rfl rfl (by omega) | exact dx_idx rfl rfl (by omega) (by first | assumption | exact hx) rfl | exact den_call rfl (sp_lockMix_at _ (by assumption)) rfl | exact den_call rfl (sp_mAdd_at _ _ ⟨by assumption, by assumption⟩) rfl | exact den_call rfl (sp_mSub_at _ _ ⟨by assumption, by assumption⟩) rfl | exact den_call rfl (sp_mSame_at _ _) rfl | exact den_call rfl (sp_mLess_at _ _) rfl | exact den_call rfl (sp_mAnd_at _ _) rfl | exact den_call rfl (sp_mNot_at _) rfl | exact dx_not rfl | exact dx_len0 rfl | exact dx_eqS rfl rfl | exact dx_neS rfl rfl | exact dx_eqB rfl rfl | exact dx_neB rfl rfl | exact dx_eqP rfl rfl rfl rfl | exact dx_neP rfl rfl rfl rfl | exact dx_neg rfl (by omega) | exact dx_cutl rfl rfl (by omega) (by omega) (by assumption) | exact den_mk (r := [[I _]]) rfl rfl (by simp) | exact dx_sel rfl rfl (by omega) rfl | exact dx_mn rfl rfl | exact dx_slen rfl | exact dx_app1 (fun _ => rfl) rfl rfl (by first | omega | (simp only [List.length_append, List.length_cons, List.length_nil]; omega))) ?_ | refine den_ck (by exact dx_inr rfl rfl (by omega) (by omega)) ?_ | refine den_lets (by first | exact dx_el rfl rfl (by omega) (by first | assumption | exact hx) (by rfl) | exact dx_calls rfl (sp_lockMix_at _ (by assumption)) (by rfl) | exact dx_calls rfl (sp_mAdd_at _ _ ⟨by assumption, by assumption⟩) (by rfl) | exact dx_calls rfl (sp_mSub_at _ _ ⟨by assumption, by assumption⟩) (by rfl) | exact dx_calls rfl (sp_mSame_at _ _) (by rfl) | exact dx_calls rfl (sp_mLess_at _ _) (by rfl) | exact dx_calls rfl (sp_mAnd_at _ _) (by rfl) | exact dx_calls rfl (sp_mNot_at _) (by rfl) | exact denXs_cons (dx_idx rfl rfl (by omega) (by first | assumption | exact hx) rfl) (denXs_cons (dx_idx rfl rfl (by omega) (by first | assumption | exact hx) rfl) denXs_nil)) ?_ (by simp only [eCoin, eTx, eIn, eOut, eOp, ePoint, eInt, eStr, eBlock, eTree, eBook, eUndo, eBool, List.cons_append, List.nil_append]; try exact rfl) | refine den_T rfl (by first | assumption | omega) ?_ | refine den_F rfl (by first | assumption | omega) ?_ | refine den_t rfl ?_ | refine den_f rfl ?_ | exact den_ret rfl (by rw [hF (by (repeat' (first | rfl | rw [pushM_none (by omega)] | rw [pushM_some (by omega) (by omega) (by omega)] | rw [if_pos (by omega)] | rw [if_neg (by omega)] | simp only [Option.bind_some, Option.bind_none])))]; rfl) | exact den_ret rfl (by rw [hF]; rfl) | exact den_ret rfl (by rw [hF trivial]; rfl) | exact den_again rfl rfl (hO _ (by (repeat' (first | rfl | rw [pushM_none (by omega)] | rw [pushM_some (by omega) (by omega) (by omega)] | rw [if_pos (by omega)] | rw [if_neg (by omega)] | simp only [Option.bind_some, Option.bind_none])))) | refine den_sp rfl (fun h => ?_) (fun h => ?_))
        · rintro s hs again'
          repeat' (first | refine den_let1 (by first | exact dx_eql rfl rfl | exact dx_neq rfl rfl | exact dx_lss rfl rfl | exact dx_gtr rfl rfl | exact dx_geq rfl rfl | exact dx_leq rfl rfl | exact dx_len rfl | exact den_add rfl rfl (by omega) | exact den_sub rfl rfl (by omega) | exact dx_idx rfl rfl (by omega) (by first | assumption | exact hx) rfl | exact dx_not rfl | exact dx_len0 rfl | exact dx_eqS rfl rfl | exact dx_neS rfl rfl | exact dx_eqB rfl rfl | exact dx_neB rfl rfl | exact dx_eqP rfl rfl rfl rfl | exact dx_neP rfl rfl rfl rfl | exact dx_neg rfl (by omega) | exact dx_cutl rfl rfl (by omega) (by omega) (by assumption) | exact den_mk (r := [[I _]]) rfl rfl (by simp) | exact dx_sel rfl rfl (by omega) rfl | exact dx_mn rfl rfl | exact dx_slen rfl | exact dx_app1 (fun _ => rfl) rfl rfl (by first | omega | (simp only [List.length_append, List.length_cons, List.length_nil]; omega))) ?_ | refine den_ck (by exact dx_inr rfl rfl (by omega) (by omega)) ?_ | refine den_lets (by first | exact dx_el rfl rfl (by omega) (by first | assumption | exact hx) (by rfl) | exact denXs_cons (dx_idx rfl rfl (by omega) (by first | assumption | exact hx) rfl) (denXs_cons (dx_idx rfl rfl (by omega) (by first | assumption | exact hx) rfl) denXs_nil)) ?_ (by simp only [eCoin, eTx, eIn, eOut, eOp, ePoint, eInt, eStr, eBlock, eTree, eBook, eUndo, eBool, List.cons_append, List.nil_append]; try exact rfl) | exact den_ret rfl rfl | refine den_ifR rfl (by with_reducible rfl) (fun h => ?_) (fun h => ?_) | refine den_ifB rfl (by with_reducible rfl) (fun h => ?_) (fun h => ?_) | refine den_ifC rfl (by with_reducible rfl) (fun h => ?_) (fun h => ?_) | refine den_ifBn rfl (by with_reducible rfl) (fun h => ?_) (fun h => ?_) | refine den_ifF rfl (by with_reducible rfl) (fun h => ?_) (fun h => ?_) | refine den_ifFn rfl (by with_reducible rfl) (fun h => ?_) (fun h => ?_) | refine den_ifAndOr rfl (by with_reducible rfl) (fun h => ?_) (fun h => ?_) | refine den_ifOrAnd rfl (by with_reducible rfl) (fun h => ?_) (fun h => ?_) | refine den_ifAnd rfl (by with_reducible rfl) (fun h => ?_) (fun h => ?_) | refine den_ifOr rfl (by with_reducible rfl) (fun h => ?_) (fun h => ?_) | refine den_band rfl (by with_reducible rfl) (fun h => ?_) (fun h => ?_) | refine den_bor rfl (by with_reducible rfl) (fun h => ?_) (fun h => ?_) | refine den_T rfl (by first | assumption | omega) ?_ | refine den_F rfl (by first | assumption | omega) ?_ | refine den_t rfl ?_ | refine den_f rfl ?_)
    · intro i d hi hd
      match i, hi, hd with
      | 0, hi, _ => simp [cfsOf] at hi
      | 1, _, hd => simp only [Enc.e, eInt, List.cons_append, List.nil_append, List.getElem?_cons_zero, List.getElem?_cons_succ, Option.some.injEq] at hd; subst hd; rfl
      | i + 2, hi, hd => simp [cfsOf] at hi
end Go.Proofs.Ytnnbnjanekibpaa
namespace Go.Proofs.Ytnnbnjanekibpaa
open Go.RowKit
set_option linter.unusedVariables false
set_option linter.unusedSimpArgs false
set_option maxRecDepth 100000
set_option maxHeartbeats 4000000
attribute [local irreducible] specOf spD ordP runOf
noncomputable def sp_lockOpens : Spec := spD (fun _ : List Op × List Op × Int => True) fun x => openOf x.1 x.2.1 x.2.2
theorem sp_lockOpens_at (l k : List Op) (h : Int) : sp_lockOpens [.l 2 (l.map eOp), .l 2 (k.map eOp), I h] = some [.b (openOf l k h).1, I (openOf l k h).2] := spD_at (f := fun x : List Op × List Op × Int => openOf x.1 x.2.1 x.2.2) (l, k, h) trivial
theorem runM_ok {h : Int} : ∀ {l : List Op} {s s' : List Int}, StackOK s → runM h s l = some s' → StackOK s'
  | [], s, s', hs, he => by cases he; exact hs
  | o :: l, s, s', hs, he => by
    rw [runM] at he
    cases hm : stepM h s o with
    | none => rw [hm] at he; cases he
    | some t => rw [hm] at he; exact runM_ok (stepM_ok hs hm) he
theorem runOf_len (l : List Op) (s : List Int) (h : Int) : (runOf l s h).1.length ≤ 16 := by
  unfold runOf
  split
  · simp
  split
  · simp
  rename_i h2
  split
  · rename_i h3
    have hs : StackOK s := ⟨by omega, h3⟩
    cases hm : runM h s l with
    | none => simp
    | some t => exact (runM_ok hs hm).1
  · simp
theorem head_at {l : List Int} (h : (l.length : Int) = 1) : l[(0 : Int).toNat]? = some (l.headD 0) := by
  match l, h with
  | [x], _ => rfl
def t_lockOpens_0 : T :=
  .lets [.bin .neq (.v 8) (.c (.i .i64 0))] [] (.ite (.v 9) (.ret [.c (.b false), .v 8]) (.lets [.bin .add (.v 5) (.c (.i .i64 1))] [] (.again 0 [.v 3, .v 4, .v 10])))
def t_lockOpens_1 : T :=
  .lets [] [.inr 1 (.v 10) (.c (.i .i64 0))] (.lets [.idx (.v 10) (.c (.i .i64 0)) 0] [] (.lets [.bin .neq (.v 16) (.c (.i .i64 0))] [] (.ret [.v 17, .c (.i .i64 0)])))
def t_lockOpens_2 : T :=
  .ite (.v 13) (.lets [.len (.v 10)] [] (.lets [.bin .eql (.v 14) (.c (.i .i64 1))] [] (.ite (.v 15) t_lockOpens_1 (.ret [.c (.b false), .c (.i .i64 0)])))) (.ret [.c (.b false), .c
  (.i .i64 0)])
def t_lockOpens_3 : T :=
  .lets [.call 40 [.v 0, .v 7, .v 2] 0, .call 40 [.v 0, .v 7, .v 2] 1] [] (.lets [.bin .eql (.v 11) (.c (.i .i64 3))] [] (.ite (.v 12) (.ret [.c (.b false), .v 11]) (.lets [.bin .eql
  (.v 11) (.c (.i .i64 0))] [] t_lockOpens_2)))
def t_lockOpens_4 : T :=
  .lets [] [.inr 1 (.v 7) (.c (.i .i64 0))] (.lets [.idx (.v 7) (.c (.i .i64 0)) 0] [] (.lets [.bin .neq (.v 14) (.c (.i .i64 0))] [] (.ret [.v 15, .c (.i .i64 0)])))
def t_lockOpens_5 : T :=
  .ite (.v 11) (.lets [.len (.v 7)] [] (.lets [.bin .eql (.v 12) (.c (.i .i64 1))] [] (.ite (.v 13) t_lockOpens_4 (.ret [.c (.b false), .c (.i .i64 0)])))) (.ret [.c (.b false), .c
  (.i .i64 0)])
def t_lockOpens_6 : T :=
  .ite (.v 9) t_lockOpens_3 (.lets [.bin .eql (.v 8) (.c (.i .i64 3))] [] (.ite (.v 10) (.ret [.c (.b false), .v 8]) (.lets [.bin .eql (.v 8) (.c (.i .i64 0))] [] t_lockOpens_5)))
def t_lockOpens_7 : T :=
  .ite (.v 6) (.lets [.sel [.v 0, .v 1] (.v 5)] [] (.lets [.call 7 [.v 7] 0] [] t_lockOpens_0)) (.lets [.call 40 [.v 1, .c (.nil 1), .v 2] 0, .call 40 [.v 1, .c (.nil 1), .v 2] 1] []
  (.lets [.bin .eql (.v 8) (.c (.i .i64 0))] [] t_lockOpens_6))
def t_lockOpens : T :=
  .loop [.c (.b false), .c (.i .i64 0), .c (.i .i64 0)] (.lets [.bin .lss (.v 5) (.c (.i .i64 2))] [] t_lockOpens_7)
theorem m_lockOpens : Meets Try.prog sp_lockOpens 116 ⟨[.one, .one, .one], [(false, [.scal]), (false, [.scal])], true⟩ := by
  refine meets_fast (sp := (spsOf [(7, sp_lockCheck), (40, sp_lockRun)])) (sigs := sigsA) (cut := []) (hints := [⟨2, [.t 6, .t 7, .t 16]⟩]) (fn := Try.f116) (t := t_lockOpens) (by kernel_rfl) (by kernel_rfl) (by kernel_rfl) ?_ ?_
  · exact (sig_of (L := [(7, sp_lockCheck), (40, sp_lockRun)]) ⟨sig_at rfl m_lockCheck, sig_at rfl m_lockRun, trivial⟩)
  · rintro ds rs - h
    obtain ⟨⟨l, k, ht⟩, -, rfl, rfl⟩ := spD_some h
    clear h
    refine ⟨⟨3, ?_⟩, scalOk_2 rfl rfl⟩
    show den _ _ t_lockOpens [.l 2 (l.map eOp), .l 2 (k.map eOp), I ht] [] = ret (openOf l k ht)
    unfold t_lockOpens openOf
    refine den_loop rfl ?_
    rw [iterT]
    repeat' (first | refine den_let1 (by first | exact dx_eql rfl rfl | exact dx_neq rfl rfl | exact dx_lss rfl rfl | exact dx_gtr rfl rfl | exact dx_geq rfl rfl | exact dx_leq rfl rfl | exact dx_len rfl | exact den_add rfl rfl (by omega) | exact den_sub rfl rfl (by omega) | exact dx_idx rfl rfl (by omega) (by first | assumption | exact hx) rfl | exact den_call rfl (sp_lockCheck_at _) rfl | exact dx_not rfl | exact dx_len0 rfl | exact dx_eqS rfl rfl | exact dx_neS rfl rfl | exact dx_eqB rfl rfl | exact dx_neB rfl rfl | exact dx_eqP rfl rfl rfl rfl | exact dx_neP rfl rfl rfl rfl | exact dx_neg rfl (by omega) | exact dx_cutl rfl rfl (by omega) (by omega) (by assumption) | exact den_mk (r := [[I _]]) rfl rfl (by simp) | exact dx_sel rfl rfl (by omega) rfl | exact dx_mn rfl rfl | exact dx_slen rfl | exact dx_app1 (fun _ => rfl) rfl rfl (by first | omega | (simp only [List.length_append, List.length_cons, List.length_nil]; omega))) ?_ | refine den_ck (by exact dx_inr rfl rfl (by omega) (by omega)) ?_ | refine den_lets (by first | exact dx_el rfl rfl (by omega) (by first | assumption | exact hx) (by rfl) | exact dx_calls rfl (sp_lockCheck_at _) (by rfl) | exact denXs_cons (dx_idx rfl rfl (by omega) (by first | assumption | exact hx) rfl) (denXs_cons (dx_idx rfl rfl (by omega) (by first | assumption | exact hx) rfl) denXs_nil)) ?_ (by simp only [eCoin, eTx, eIn, eOut, eOp, ePoint, eInt, eStr, eBlock, eTree, eBook, eUndo, eBool, List.cons_append, List.nil_append]; try exact rfl) | exact den_ret rfl rfl | refine den_ifR rfl (by with_reducible rfl) (fun h => ?_) (fun h => ?_) | refine den_ifB rfl (by with_reducible rfl) (fun h => ?_) (fun h => ?_) | refine den_ifC rfl (by with_reducible rfl) (fun h => ?_) (fun h => ?_) | refine den_ifBn rfl (by with_reducible rfl) (fun h => ?_) (fun h => ?_) | refine den_ifF rfl (by with_reducible rfl) (fun h => ?_) (fun h => ?_) | refine den_ifFn rfl (by with_reducible rfl) (fun h => ?_) (fun h => ?_) | refine den_ifAndOr rfl (by with_reducible rfl) (fun h => ?_) (fun h => ?_) | refine den_ifOrAnd rfl (by with_reducible rfl) (fun h => ?_) (fun h => ?_) | refine den_ifAnd rfl (by with_reducible rfl) (fun h => ?_) (fun h => ?_) | refine den_ifOr rfl (by with_reducible rfl) (fun h => ?_) (fun h => ?_) | refine den_band rfl (by with_reducible rfl) (fun h => ?_) (fun h => ?_) | refine den_bor rfl (by with_reducible rfl) (fun h => ?_) (fun h => ?_) | refine den_T rfl (by first | assumption | omega) ?_ | refine den_F rfl (by first | assumption | omega) ?_ | refine den_t rfl ?_ | refine den_f rfl ?_)
    refine den_again rfl rfl ?_
    rw [iterT]
    have hr1 := runOf_len k [] ht
    have hr2 := runOf_len l (runOf k [] ht).1 ht
    unfold openFin
    repeat' (first | refine den_let1 (by first | exact dx_eql rfl rfl | exact dx_neq rfl rfl | exact dx_lss rfl rfl | exact dx_gtr rfl rfl | exact dx_geq rfl rfl | exact dx_leq rfl rfl | exact dx_len rfl | exact den_add rfl rfl (by omega) | exact den_sub rfl rfl (by omega) | exact dx_idx rfl rfl (by omega) (by first | assumption | exact hx) rfl | exact den_call rfl (sp_lockRun_at k [] ht (by simp)) rfl | exact den_call rfl (sp_lockRun_at l _ ht (by omega)) rfl | exact dx_not rfl | exact dx_len0 rfl | exact dx_eqS rfl rfl | exact dx_neS rfl rfl | exact dx_eqB rfl rfl | exact dx_neB rfl rfl | exact dx_eqP rfl rfl rfl rfl | exact dx_neP rfl rfl rfl rfl | exact dx_neg rfl (by omega) | exact dx_cutl rfl rfl (by omega) (by omega) (by assumption) | exact den_mk (r := [[I _]]) rfl rfl (by simp) | exact dx_sel rfl rfl (by omega) rfl | exact dx_mn rfl rfl | exact dx_slen rfl | exact dx_app1 (fun _ => rfl) rfl rfl (by first | omega | (simp only [List.length_append, List.length_cons, List.length_nil]; omega))) ?_ | refine den_ck (by exact dx_inr rfl rfl (by omega) (by omega)) ?_ | refine den_lets (by first | exact dx_el rfl rfl (by omega) (by first | assumption | exact hx) (by rfl) | exact dx_calls rfl (sp_lockRun_at k [] ht (by simp)) (by rfl) | exact dx_calls rfl (sp_lockRun_at l _ ht (by omega)) (by rfl) | exact denXs_cons (dx_idx rfl rfl (by omega) (by first | assumption | exact hx) rfl) (denXs_cons (dx_idx rfl rfl (by omega) (by first | assumption | exact hx) rfl) denXs_nil)) ?_ (by simp only [eCoin, eTx, eIn, eOut, eOp, ePoint, eInt, eStr, eBlock, eTree, eBook, eUndo, eBool, List.cons_append, List.nil_append]; try exact rfl) | exact den_ret rfl rfl | refine den_ifR rfl (by with_reducible rfl) (fun h => ?_) (fun h => ?_) | refine den_ifB rfl (by with_reducible rfl) (fun h => ?_) (fun h => ?_) | refine den_ifC rfl (by with_reducible rfl) (fun h => ?_) (fun h => ?_) | refine den_ifBn rfl (by with_reducible rfl) (fun h => ?_) (fun h => ?_) | refine den_ifF rfl (by with_reducible rfl) (fun h => ?_) (fun h => ?_) | refine den_ifFn rfl (by with_reducible rfl) (fun h => ?_) (fun h => ?_) | refine den_ifAndOr rfl (by with_reducible rfl) (fun h => ?_) (fun h => ?_) | refine den_ifOrAnd rfl (by with_reducible rfl) (fun h => ?_) (fun h => ?_) | refine den_ifAnd rfl (by with_reducible rfl) (fun h => ?_) (fun h => ?_) | refine den_ifOr rfl (by with_reducible rfl) (fun h => ?_) (fun h => ?_) | refine den_band rfl (by with_reducible rfl) (fun h => ?_) (fun h => ?_) | refine den_bor rfl (by with_reducible rfl) (fun h => ?_) (fun h => ?_) | refine den_T rfl (by first | assumption | omega) ?_ | refine den_F rfl (by first | assumption | omega) ?_ | refine den_t rfl ?_ | refine den_f rfl ?_)
    all_goals
      have hx := head_at (by assumption)
      repeat' (first | refine den_let1 (by first | exact dx_eql rfl rfl | exact dx_neq rfl rfl | exact dx_lss rfl rfl | exact dx_gtr rfl rfl | exact dx_geq rfl rfl | exact dx_leq rfl rfl | exact dx_len rfl | exact den_add rfl rfl (by omega) | exact den_sub rfl rfl (by omega) | exact dx_idx rfl rfl (by omega) (by first | assumption | exact hx) rfl | exact dx_not rfl | exact dx_len0 rfl | exact dx_eqS rfl rfl | exact dx_neS rfl rfl | exact dx_eqB rfl rfl | exact dx_neB rfl rfl | exact dx_eqP rfl rfl rfl rfl | exact dx_neP rfl rfl rfl rfl | exact dx_neg rfl (by omega) | exact dx_cutl rfl rfl (by omega) (by omega) (by assumption) | exact den_mk (r := [[I _]]) rfl rfl (by simp) | exact dx_sel rfl rfl (by omega) rfl | exact dx_mn rfl rfl | exact dx_slen rfl | exact dx_app1 (fun _ => rfl) rfl rfl (by first | omega | (simp only [List.length_append, List.length_cons, List.length_nil]; omega))) ?_ | refine den_ck (by exact dx_inr rfl rfl (by omega) (by omega)) ?_ | refine den_lets (by first | exact dx_el rfl rfl (by omega) (by first | assumption | exact hx) (by rfl) | exact denXs_cons (dx_idx rfl rfl (by omega) (by first | assumption | exact hx) rfl) (denXs_cons (dx_idx rfl rfl (by omega) (by first | assumption | exact hx) rfl) denXs_nil)) ?_ (by simp only [eCoin, eTx, eIn, eOut, eOp, ePoint, eInt, eStr, eBlock, eTree, eBook, eUndo, eBool, List.cons_append, List.nil_append]; try exact rfl) | exact den_ret rfl rfl | refine den_ifR rfl (by with_reducible rfl) (fun h => ?_) (fun h => ?_) | refine den_ifB rfl (by with_reducible rfl) (fun h => ?_) (fun h => ?_) | refine den_ifC rfl (by with_reducible rfl) (fun h => ?_) (fun h => ?_) | refine den_ifBn rfl (by with_reducible rfl) (fun h => ?_) (fun h => ?_) | refine den_ifF rfl (by with_reducible rfl) (fun h => ?_) (fun h => ?_) | refine den_ifFn rfl (by with_reducible rfl) (fun h => ?_) (fun h => ?_) | refine den_ifAndOr rfl (by with_reducible rfl) (fun h => ?_) (fun h => ?_) | refine den_ifOrAnd rfl (by with_reducible rfl) (fun h => ?_) (fun h => ?_) | refine den_ifAnd rfl (by with_reducible rfl) (fun h => ?_) (fun h => ?_) | refine den_ifOr rfl (by with_reducible rfl) (fun h => ?_) (fun h => ?_) | refine den_band rfl (by with_reducible rfl) (fun h => ?_) (fun h => ?_) | refine den_bor rfl (by with_reducible rfl) (fun h => ?_) (fun h => ?_) | refine den_T rfl (by first | assumption | omega) ?_ | refine den_F rfl (by first | assumption | omega) ?_ | refine den_t rfl ?_ | refine den_f rfl ?_)
end Go.Proofs.Ytnnbnjanekibpaa
namespace Go.Proofs.Ytnnbnjanekibpaa
open Go.RowKit
set_option linter.unusedVariables false
set_option linter.unusedSimpArgs false
section
variable {P : Program} {W : World}
theorem storeCells_run {g o t : Nat} {vs cs : List Value} (hg : W.heap[g]? = some (.cells vs.toArray t (0, 0))) (hn : o + cs.length ≤ vs.length) (h1 : ∀ v ∈ cs, v.oneCell' = true) : (storeCells ⟨g, o, none⟩ cs 0).run P W = .ok () (W.setCells g o cs) := by
  have h := hthere (fr := (0, 0)) hg (o := o) (n := cs.length) hn
  have := run_storeCells_cells (P := P) g o cs 0 W (fun j hj => by rw [Nat.add_zero]; exact (h j hj).1) (fun j hj => by rw [Nat.add_zero]; exact (h j hj).2) h1
  simpa using this
theorem clear_run {t e ty sz : Nat} {z : Value} (ht : P.underlying t = some (.slice e)) (hv : ∀ w, (zeroValue e).run P w = .ok z w) (hz : z.cells.size = sz) (h1 : ∀ v ∈ z.cells.toList, v.oneCell' = true) {g o n c tt : Nat} {vs : List Value} (hg : W.heap[g]? = some (.cells vs.toArray tt (0, 0))) (hn : o + n * sz ≤ vs.length) :
    (Builtin.clear_ #[t] ty #[.slice (some ⟨g, o, none⟩) n c]).run P W = .ok (.tuple #[]) (W.setCells g o (Builtin.zeroCells z.cells n).toList) := by
  have hzl : (Builtin.zeroCells z.cells n).toList.length = n * sz := by simp [Builtin.zeroCells, hz]
  cases n with
  | zero =>
    have : (Builtin.zeroCells z.cells 0).toList = [] := List.eq_nil_of_length_eq_zero (by rw [hzl]; simp)
    rw [this]
    simp [Builtin.clear_, run_underlying ht, World.setCells]
  | succ n =>
    have hs := storeCells_run (P := P) (cs := (Builtin.zeroCells z.cells (n + 1)).toList) hg (by rw [hzl]; exact hn) (fun v hv => by
      rw [Array.mem_toList_iff] at hv
      simp only [Builtin.zeroCells, Array.mem_map] at hv
      obtain ⟨i, hi, rfl⟩ := hv
      have hpos : 0 < z.cells.size := by
        rcases Nat.eq_zero_or_pos z.cells.size with h | h
        · rw [h] at hi; simp at hi
        · exact h
      have hlt : i % z.cells.size < z.cells.size := Nat.mod_lt _ hpos
      rw [getElem!_pos z.cells _ hlt]
      exact h1 _ (by simp))
    simp [Builtin.clear_, run_underlying ht, hv, hs]
theorem copy_run {t t' e ty sz : Nat} (ht : P.underlying t = some (.slice e)) (hsz : (P.info? e).map (·.size) = some sz) {g o dLen dCap sLen sCap tt : Nat} {a : Addr} {vs cs : List Value} (hg : W.heap[g]? = some (.cells vs.toArray tt (0, 0))) (hl : cs.length = Nat.min sLen dLen * sz) (hsrc : ∀ j v, cs[j]? = some v → W.cell? (a.add j) = some v) (hn : o + cs.length ≤ vs.length) (h1 : ∀ v ∈ cs, v.oneCell' = true) :
    (Builtin.copy_ #[t, t'] ty #[.slice (some ⟨g, o, none⟩) dLen dCap, .slice (some a) sLen sCap]).run P W = .ok (goInt (Nat.min sLen dLen)) (W.setCells g o cs) := by
  have hs := storeCells_run (P := P) hg hn h1
  have hlc := run_loadCells_list (P := P) W a cs hsrc
  cases hq : P.info? e with
  | none => simp [hq] at hsz
  | some i =>
    have hi : i.size = sz := by simpa [hq] using hsz
    simp [Builtin.copy_, run_underlying ht, Builtin.lenOf, Builtin.firstCells, sizeOf, typeInfo, hq, hi, ← hl, hlc, hs]
end
theorem setV_ins {pre mid post us : List Value} {o : Nat} (ho : o = pre.length) (h : us.length = mid.length) : setV (pre ++ mid ++ post) o us = pre ++ us ++ post := by subst ho; exact setV_mid us pre mid post h
theorem setV_at {vs us : List Value} {o : Nat} (h : o + us.length ≤ vs.length) : setV vs o us = vs.take o ++ us ++ vs.drop (o + us.length) := by
  have e : vs = vs.take o ++ (vs.drop o).take us.length ++ vs.drop (o + us.length) := by
    rw [List.append_assoc, ← List.drop_drop, List.take_append_drop, List.take_append_drop]
  have h1 : o = (vs.take o).length := by rw [List.length_take]; omega
  have h2 : us.length = ((vs.drop o).take us.length).length := by rw [List.length_take, List.length_drop]; omega
  conv => lhs; rw [e]
  exact setV_ins h1 h2
theorem flat_lenR {sz : Nat} : ∀ {xs : List (List Dt)}, (∀ x ∈ xs, x.length = sz) → xs.flatten.length = xs.length * sz
  | [], _ => by simp
  | x :: xs, h => by rw [List.flatten_cons, List.length_append, h x (List.mem_cons_self ..), flat_lenR fun y hy => h y (List.mem_cons_of_mem _ hy), List.length_cons, Nat.succ_mul, Nat.add_comm]
theorem flat_takeR {sz : Nat} : ∀ {xs : List (List Dt)} (i : Nat), (∀ x ∈ xs, x.length = sz) → (xs.take i).flatten = xs.flatten.take (i * sz)
  | [], i, _ => by simp
  | x :: xs, 0, _ => by simp
  | x :: xs, i + 1, h => by
    have hx := h x (List.mem_cons_self ..)
    rw [List.take_succ_cons, List.flatten_cons, List.flatten_cons, flat_takeR i fun y hy => h y (List.mem_cons_of_mem _ hy), List.take_append, hx, List.take_of_length_le (show x.length ≤ (i + 1) * sz by rw [hx, Nat.succ_mul]; omega), Nat.succ_mul, Nat.add_sub_cancel]
theorem flat_dropR {sz : Nat} {xs : List (List Dt)} (i : Nat) (h : ∀ x ∈ xs, x.length = sz) : (xs.drop i).flatten = xs.flatten.drop (i * sz) := by
  have e : xs.flatten = (xs.take i).flatten ++ (xs.drop i).flatten := by rw [← List.flatten_append, List.take_append_drop]
  by_cases hi : i ≤ xs.length
  · have h1 : (xs.take i).flatten.length = i * sz := by rw [flat_lenR fun y hy => h y (List.mem_of_mem_take hy), List.length_take, Nat.min_eq_left hi]
    rw [e, ← h1, List.drop_left]
  · rw [List.drop_of_length_le (by omega), List.drop_of_length_le]
    · rfl
    · rw [flat_lenR h]; exact Nat.mul_le_mul_right _ (by omega)
section
variable {P : Program}
theorem meets_del {α : Type} [Enc α] {f e sz : Nat} (hn : Enc.n α = sz) (hpos : 0 < sz) (hen : En P f) (zc : Array Value) (hzc : zc.size = sz)
    (h0 : ∀ (W : World) (A : Option Addr) (n cap i : Nat), i ≤ n → n ≤ cap → cap ≤ maxLen → Calls P f #[.slice A n cap, .int .i64 i, .int .i64 i] W fun r W' => r = .returned (.slice A n cap) ∧ W' = W)
    (hw : ∀ (W : World) (g n cap i j : Nat) (vs : List Value), W.heap[g]? = some (.cells vs.toArray e (0, 0)) → n ≤ cap → cap ≤ maxLen → vs.length = cap * sz → (∀ u ∈ vs.take (n * sz), u.oneCell' = true) → i < j → j ≤ n →
      Calls P f #[.slice (some ⟨g, 0, none⟩) n cap, .int .i64 i, .int .i64 j] W fun r W' => r = .returned (.slice (some ⟨g, 0, none⟩) (n - (j - i)) cap) ∧ W' = ((W.drewN 1).setCells g (i * sz) ((vs.take (n * sz)).drop (j * sz))).setCells g ((i + (n - j)) * sz) (Builtin.zeroCells zc (j - i)).toList) :
    Meets P (spD (fun x : List α × Int × Int => 0 ≤ x.2.1 ∧ x.2.1 ≤ x.2.2 ∧ x.2.2 ≤ x.1.length) fun x => x.1.take x.2.1.toNat ++ x.1.drop x.2.2.toNat) f ⟨[.mine e sz, .one, .one], [(false, [.fresh e sz])], false⟩ := by
  refine ⟨fun h => (by cases h), ?_⟩
  intro e' sz' ps hps
  injection hps with h1 h2
  injection h1 with h1 h1'
  subst h1; subst h1'; subst h2
  intro W F base v xs cells ds args rs hF hbase hvF hxs hown hreps hargs hsp
  obtain ⟨⟨l, i, j⟩, ⟨hi0, hij, hjl⟩, he, rfl⟩ := spD_some hsp
  have he' : Dt.l sz xs :: ds = Dt.l (Enc.n α) (l.map Enc.e) :: [I i, I j] := he
  injection he' with g1 g2
  injection g1 with g3 g1
  subst g2; subst g1
  simp only at hi0 hij hjl
  obtain ⟨va, vas, rfl, ha, hargs⟩ := pks_one hargs
  obtain ⟨vb, vbs, rfl, hb, hargs⟩ := pks_one hargs
  obtain rfl := pks_nil hargs
  obtain ⟨rfl, _⟩ := rep_i ha
  obtain ⟨rfl, _⟩ := rep_i hb
  obtain ⟨a, rfl⟩ : ∃ a : Nat, i = a := ⟨i.toNat, by omega⟩
  obtain ⟨b, rfl⟩ : ∃ b : Nat, j = b := ⟨j.toNat, by omega⟩
  have hlen : (l.map Enc.e).length = l.length := List.length_map _
  rw [hlen] at hown
  refine ⟨(l.take a ++ l.drop b).map Enc.e, ?_, fun x hx => hxs x ?_, ?_⟩
  · show [Dt.l (Enc.n α) _] = _
    rw [hn]; rfl
  · rw [List.map_append, List.map_take, List.map_drop] at hx
    rcases List.mem_append.1 hx with hx | hx
    · exact List.mem_of_mem_take hx
    · exact List.mem_of_mem_drop hx
  by_cases hab : a = b
  · subst hab
    have hsame : l.take a ++ l.drop a = l := List.take_append_drop ..
    simp only [Int.toNat_natCast, hsame]
    have hv : ∃ A cap, v = .slice A l.length cap ∧ l.length ≤ cap ∧ cap ≤ maxLen := by
      rcases hown.2 with ⟨rfl, h0⟩ | ⟨g, cap, cur, rfl, _, _, h1, h2, _⟩
      · exact ⟨none, 0, by rw [h0], by omega, by unfold maxLen; omega⟩
      · exact ⟨_, cap, rfl, h1, h2⟩
    obtain ⟨A, cap, rfl, h1, h2⟩ := hv
    refine .inl ⟨hen.run _ _, (h0 W A l.length cap a (by omega) h1 h2).mono ?_⟩
    rintro r W' ⟨rfl, rfl⟩
    exact ⟨_, rfl, _, cells, ⟨fun h => (by cases h), fun _ => rfl⟩, World.grownBy.refl _ _, by rw [hlen]; exact hown, hreps, fun _ h => .inl h⟩
  · rcases hown.2 with ⟨rfl, h0⟩ | ⟨g, cap, cur, rfl, hbg, hg, h1, h2, hcs, htk⟩
    · omega
    · have hkeep := hown
      have hml : cells.length = l.length * sz := hown.1
      have hcs' : cur.toList.length = cap * sz := by simpa using hcs
      have hones : ∀ u ∈ cur.toList.take (l.length * sz), u.oneCell' = true := by rw [htk]; exact hreps.one
      refine .inl ⟨hen.run _ _, (hw W g l.length cap a b cur.toList (by simpa using hg) h1 h2 hcs' hones (by omega) (by omega)).mono ?_⟩
      rintro r W' ⟨rfl, rfl⟩
      have hgF : ¬ F g := hvF g rfl
      generalize hW1 : (W.drewN 1).setCells g (a * sz) ((cur.toList.take (l.length * sz)).drop (b * sz)) = W1
      have hg0 : (W.drewN 1).heap[g]? = some (.cells cur.toList.toArray e (0, 0)) := by simpa using hg
      have hnl : ((cur.toList.take (l.length * sz)).drop (b * sz)).length = (l.length - b) * sz := by
        rw [htk, List.length_drop, hml, Nat.sub_mul]
      have hzl : (Builtin.zeroCells zc (b - a)).toList.length = (b - a) * sz := by simp [Builtin.zeroCells, hzc]
      have hg1 := hcells_heap ((cur.toList.take (l.length * sz)).drop (b * sz)) (a * sz) (W.drewN 1) cur.toList hg0
      rw [hW1] at hg1
      have hg2 := hcells_heap (Builtin.zeroCells zc (b - a)).toList ((a + (l.length - b)) * sz) W1 _ hg1
      have hmul1 : a * sz + (l.length - b) * sz = (a + (l.length - b)) * sz := (Nat.add_mul ..).symm
      have hle1 : (a + (l.length - b)) * sz ≤ cap * sz := Nat.mul_le_mul_right _ (by omega)
      have hle2 : (a + (l.length - b)) * sz + (b - a) * sz ≤ cap * sz := by rw [← Nat.add_mul]; exact Nat.mul_le_mul_right _ (by omega)
      have hle3 : a * sz ≤ l.length * sz := Nat.mul_le_mul_right _ (by omega)
      have hle4 : l.length * sz ≤ cap * sz := Nat.mul_le_mul_right _ h1
      have hfar : ∀ k, k ≠ g → (W1.setCells g ((a + (l.length - b)) * sz) (Builtin.zeroCells zc (b - a)).toList).heap[k]? = W.heap[k]? := by
        intro k hk
        rw [hcells_far g _ _ _ k hk, ← hW1, hcells_far g _ _ _ k hk]
        rfl
      refine ⟨_, rfl, _, cells.take (a * sz) ++ cells.drop (b * sz), ⟨fun h => (by cases h), fun _ => rfl⟩, ?_, ?_, ?_, fun _ h => .inl h⟩
      · obtain ⟨k1, k2, k3, k4⟩ := hcells_grown g (Builtin.zeroCells zc (b - a)).toList ((a + (l.length - b)) * sz) W1
        obtain ⟨q1, q2, q3, q4⟩ := hcells_grown g ((cur.toList.take (l.length * sz)).drop (b * sz)) (a * sz) (W.drewN 1)
        rw [hW1] at q1 q2 q3 q4
        refine ⟨k1.trans q1, k2.trans q2, k3.trans q3, ?_, fun k hk hne => hfar k fun h => hne (by rw [h]; rfl)⟩
        rw [k4, q4]
        exact Nat.le_refl _
      · have hl2 : ((l.take a ++ l.drop b).map (Enc.e (α := α))).length = a + (l.length - b) := by
          rw [List.length_map, List.length_append, List.length_take, List.length_drop]; omega
        rw [hl2]
        refine ⟨?_, .inr ⟨g, cap, _, by rw [show l.length - (b - a) = a + (l.length - b) by omega], hbg, hg2, by omega, h2, ?_, ?_⟩⟩
        · rw [List.length_append, List.length_take, List.length_drop, hml, Nat.min_eq_left hle3, ← Nat.sub_mul, hmul1]
        · rw [List.size_toArray, setV_len, setV_len]; exact hcs'
        · rw [List.toList_toArray, setV_at (by rw [setV_len, hzl]; omega), List.append_assoc, List.take_append_of_le_length (by rw [List.length_take, setV_len]; omega), List.take_take, Nat.min_self, setV_at (by rw [hnl]; omega), List.take_append_of_le_length (by rw [List.length_append, List.length_take, hnl]; omega), List.take_of_length_le (by rw [List.length_append, List.length_take, hnl]; omega), htk]
          congr 1
          rw [← htk, List.take_take, Nat.min_eq_left hle3]
      · rw [List.map_append, List.map_take, List.map_drop, List.flatten_append, flat_takeR a hxs, flat_dropR b hxs]
        have hag : Agree F W (W1.setCells g ((a + (l.length - b)) * sz) (Builtin.zeroCells zc (b - a)).toList) := fun k hk => hfar k fun h => hgF (h ▸ hk)
        exact ((hreps.take (a * sz)).append (hreps.drop (b * sz))).mono hag (fun _ h => h)
theorem overlaps_run {tS tR e sz : Nat} {W : World} (ht : P.underlying tS = some (.slice e)) (hz : ∀ w, (sizeOf e).run P w = .ok sz w) {g o b off la ca lb cb t : Nat} {vs : List Value} (hg : W.heap[g]? = some (.cells vs.toArray t (0, 0))) (hvs : 0 < vs.length) (hne : b ≠ g) {u : Value} (hb : W.cell? ⟨b, off, none⟩ = some u) :
    (Extern.SlicesOverlaps.overlaps #[tS, tS] #[tR] #[.slice (some ⟨b, off, none⟩) la ca, .slice (some ⟨g, o, none⟩) lb cb]).run P W = .ok (.bool false) W := by
  have hnb : (b != g) = true := by simpa using hne
  have hnb' : (b == g) = false := by simpa using hne
  obtain ⟨arr, tb, fr, hbh, hsz⟩ : ∃ arr tb fr, W.heap[b]? = some (.cells arr tb fr) ∧ 0 < arr.size := by
    unfold World.cell? at hb
    split at hb
    · rename_i arr tb fr h
      simp at hb
      obtain ⟨hlt, _⟩ := Array.getElem?_eq_some_iff.1 hb
      exact ⟨arr, tb, fr, h, by omega⟩
    · cases hb
  have hsa : W.shape? b = some (tb, arr.size) := by simp [World.shape?, hbh]
  have hsb : W.shape? g = some (t, vs.length) := by simp [World.shape?, hg]
  have hfg : ∀ k, W.frozen? ⟨g, k, none⟩ = false := fun k => by simp [World.frozen?, hg]
  obtain ⟨n1, hn1⟩ : ∃ n, arr.size = n + 1 := ⟨arr.size - 1, by omega⟩
  obtain ⟨n2, hn2⟩ : ∃ n, vs.length = n + 1 := ⟨vs.length - 1, by omega⟩
  rw [hn1] at hsa
  rw [hn2] at hsb
  change Sem.run P (α := Value) (do
    let some t := (#[tS, tS] : Array TypeId)[0]? | stuck "slices.overlaps: no parameter types"
    let .slice elem ← underlying t | stuck "slices.overlaps: slice type expected"
    let size ← sizeOf elem
    match (some ⟨b, off, none⟩ : Option Addr), (some ⟨g, o, none⟩ : Option Addr) with
    | some a, some b =>
      if la = 0 ∨ lb = 0 ∨ size = 0 then pure (Value.bool false)
      else if a.block != b.block && (← frozen a) && (← frozen b) then unsupported .addressObserved
      else do
        if a.block != b.block then do
          noView a; noView b
          if ← mayBeOne a b then return Value.bool ((← choose (.extern "sameAddr.stringBytes" 2)) == 1)
        pure (Value.bool (a.block == b.block && a.off < b.off + lb * size && b.off < a.off + la * size))
    | _, _ => pure (Value.bool false)) W = _
  by_cases h0 : la = 0 ∨ lb = 0 ∨ sz = 0
  · simp [run_underlying ht, hz, h0]
  · cases hf1 : W.frozen? ⟨b, off, none⟩ <;> cases hf2 : W.frozen? ⟨b, n1 + 1, none⟩ <;>
      simp [run_underlying ht, hz, h0, hnb, hnb', frozen, noView, viewAt, mayBeOne, stringish, shape, Sem.run, hsa, hsb, hfg, hf1, hf2]
theorem cells_alloc {W : World} {b k : Nat} {v : Value} (o : Obj) (h : W.cell? ⟨b, k, none⟩ = some v) : (W.alloc o).cell? ⟨b, k, none⟩ = some v := by
  have hlt : b < W.heap.size := by
    rcases Nat.lt_or_ge b W.heap.size with h' | h'
    · exact h'
    · simp [World.cell?, Array.getElem?_eq_none h'] at h
  rw [← h]
  simp only [World.cell?, World.alloc, Array.getElem?_push, Nat.ne_of_lt hlt, if_false]
theorem cells_far {W : World} {g o b k : Nat} {us : List Value} (h : b ≠ g) : (W.setCells g o us).cell? ⟨b, k, none⟩ = W.cell? ⟨b, k, none⟩ := by
  simp only [World.cell?, hcells_far g us o W b h]
theorem wp_copy_r {W : World} {o : Oper} {a : Act} {K : Act → World → Prop} {Q : Exit → Act → World → Prop} (d s : Operand) (t t' : TypeId)
    (ho : o.op = .call { callee := .builtin .copy, args := #[d, s], argTypes := #[t, t'] }) (v u : Value) (hd : a.eval d = v) (hs : a.eval s = u) {v' : Value} {w' : World}
    (hr : (Builtin.copy_ #[t, t'] o.type #[v, u]).run P W = .ok v' w') (h : K (a.put o.dst v') w') : o.wp P a W K Q := by
  unfold Oper.wp execOp
  simp only [ho, resolve, invoke, builtin, Sem.run_bind, Sem.run_pure, Result.andThen_ok, List.map_toArray, List.map_cons, List.map_nil, hd, hs, hr]
  exact h
theorem wpList_copy_r {W : World} {ops : Array Oper} {rest : List Oper} {o : Oper} {a : Act} {Q : Exit → Act → World → Prop} (hgd : o.guard = none) (d s : Operand) (t t' : TypeId)
    (ho : o.op = .call { callee := .builtin .copy, args := #[d, s], argTypes := #[t, t'] }) (v u : Value) (hd : a.eval d = v) (hs : a.eval s = u) {v' : Value} {w' : World}
    (hr : (Builtin.copy_ #[t, t'] o.type #[v, u]).run P W = .ok v' w') (h : wpList P ops Q rest (a.put o.dst v') w') : wpList P ops Q (o :: rest) a W :=
  wpList_plain hgd fun _ hK => wp_copy_r d s t t' ho v u hd hs hr (hK _ _ h)
theorem step_copy_r {ops : Array Oper} {o : Oper} {a : Act} {W : World} {K : Act → World → Prop} {Q : Exit → Act → World → Prop} {E : Prop}
    (hg : o.guard = none) (d x : Operand) (dT sT : TypeId) (hop : o.op = Op.call { callee := Callee.builtin Builtin.copy, args := #[d, x], argTypes := #[dT, sT] })
    (v u : Value) (hd : a.eval d = v) (hx : a.eval x = u) {v' : Value} {w' : World} (hr : (Builtin.copy_ #[dT, sT] o.type #[v, u]).run P W = .ok v' w') (hK : K (a.put o.dst v') w') :
    if Region.wanted o (yielded ops a.tmps) = true then Oper.wp P o a W K Q else E := by
  have hw : Region.wanted o (yielded ops a.tmps) = true := by simp [Region.wanted, hg]
  rw [if_pos hw]
  unfold Oper.wp
  simp [execOp, hop, resolve, invoke, builtin, hd, hx, hr, Result.andThen]
  exact hK
theorem meets_ins {α : Type} [Enc α] {f e sz : Nat} (hn : Enc.n α = sz) (hpos : 0 < sz) (hen : En P f)
    (hroom : ∀ (W : World) (g n cap i b off c : Nat) (vs cs : List Value), W.heap[g]? = some (.cells vs.toArray e (0, 0)) → n < cap → cap ≤ maxLen → vs.length = cap * sz → (∀ u ∈ vs.take (n * sz), u.oneCell' = true) → i < n → b ≠ g → cs.length = sz → (∀ j v, cs[j]? = some v → W.cell? ⟨b, off + j, none⟩ = some v) → (∀ v ∈ cs, v.oneCell' = true) →
      Calls P f #[.slice (some ⟨g, 0, none⟩) n cap, .int .i64 i, .slice (some ⟨b, off, none⟩) 1 c] W fun r W' => r = .returned (.slice (some ⟨g, 0, none⟩) (n + 1) cap) ∧ W' = ((W.drewN 1).setCells g ((i + 1) * sz) ((vs.take (n * sz)).drop (i * sz))).setCells g (i * sz) cs)
    (hend : ∀ (W : World) (base : Nat) (v : Value) (n b off c : Nat) (olds cs : List Value), W.ownsRow base e sz v n olds → base ≤ W.heap.size → n ≤ 1000000 → cs.length = sz → (∀ j v, cs[j]? = some v → W.cell? ⟨b, off + j, none⟩ = some v) → (∀ v ∈ cs, v.oneCell' = true) →
      Calls P f #[v, .int .i64 n, .slice (some ⟨b, off, none⟩) 1 c] W fun r W' => ∃ v', r = .returned v' ∧ W'.ownsRow base e sz v' (n + 1) (olds ++ cs) ∧ W.grownBy W' v.ownBlock ∧ (v'.ownBlock = v.ownBlock ∨ v'.ownBlock = some W.heap.size))
    (hgrow : ∀ (W : World) (g n cap i b off c : Nat) (vs cs : List Value), W.heap[g]? = some (.cells vs.toArray e (0, 0)) → n = cap → n ≤ 1000000 → vs.length = cap * sz → (∀ u ∈ vs.take (n * sz), u.oneCell' = true) → i < n → cs.length = sz → (∀ j v, cs[j]? = some v → W.cell? ⟨b, off + j, none⟩ = some v) → (∀ v ∈ cs, v.oneCell' = true) →
      Calls P f #[.slice (some ⟨g, 0, none⟩) n cap, .int .i64 i, .slice (some ⟨b, off, none⟩) 1 c] W fun r W' => ∃ G, ∃ row : List Value, n + 1 ≤ G ∧ G ≤ maxLen ∧ row.length = G * sz ∧ r = .returned (.slice (some ⟨W.heap.size, 0, none⟩) (n + 1) G) ∧ (∀ u ∈ row.take (i * sz), u.oneCell' = true) ∧ row.take (i * sz) = vs.take (i * sz) ∧
        W' = (((W.alloc (.cells row.toArray e)).drew.setCells W.heap.size (i * sz) cs).drew).setCells W.heap.size ((i + 1) * sz) ((vs.take (n * sz)).drop (i * sz))) :
    Meets P (spD (fun x : List α × Int × List α => 0 ≤ x.2.1 ∧ x.2.1 ≤ x.1.length ∧ x.1.length ≤ 1000000 ∧ x.2.2.length = 1) fun x => x.1.take x.2.1.toNat ++ x.2.2 ++ x.1.drop x.2.1.toNat) f ⟨[.mine e sz, .one, .one], [(false, [.fresh e sz])], false⟩ := by
  refine ⟨fun h => (by cases h), ?_⟩
  intro e' sz' ps hps
  injection hps with h1 h2
  injection h1 with h1 h1'
  subst h1; subst h1'; subst h2
  intro W F base v xs cells ds args rs hF hbase hvF hxs hown hreps hargs hsp
  obtain ⟨⟨l, i, ys⟩, ⟨hi0, hil, hlm, hy1⟩, he, rfl⟩ := spD_some hsp
  have he' : Dt.l sz xs :: ds = Dt.l (Enc.n α) (l.map Enc.e) :: [I i, .l (Enc.n α) (ys.map Enc.e)] := he
  injection he' with g1 g2
  injection g1 with g3 g1
  subst g2; subst g1
  simp only at hi0 hil hlm hy1
  obtain ⟨y, rfl⟩ := List.length_eq_one_iff.1 hy1
  obtain ⟨va, vas, rfl, ha, hargs⟩ := pks_one hargs
  obtain ⟨vb, vbs, rfl, hb, hargs⟩ := pks_one hargs
  obtain rfl := pks_nil hargs
  obtain ⟨rfl, _⟩ := rep_i ha
  obtain ⟨a, rfl⟩ : ∃ a : Nat, i = a := ⟨i.toNat, by omega⟩
  have hlen : (l.map Enc.e).length = l.length := List.length_map _
  have hyl : (Enc.e y).length = sz := by rw [Enc.len, hn]
  rw [hlen] at hown
  have hml : cells.length = l.length * sz := hown.1
  obtain ⟨b, off, c, cs, rfl, hFb, hcl, hcell, hcr⟩ : ∃ b off c, ∃ cs : List Value, vb = .slice (some ⟨b, off, none⟩) 1 c ∧ F b ∧ cs.length = sz ∧ (∀ j v, cs[j]? = some v → W.cell? ⟨b, off + j, none⟩ = some v) ∧ Reps W F (Enc.e y) cs := by
    generalize hd : Dt.l (Enc.n α) ([y].map Enc.e) = d at hb
    cases hb with
    | l sz0 zs A n c b o vs k0 k1 k2 k3 k4 k5 k6 =>
      injection hd with e1 e2
      subst e2
      obtain ⟨rfl, hFb⟩ := k4 (by simp)
      refine ⟨b, o, c, (List.range sz).map (vs 0), by rw [k0]; rfl, hFb, by simp, fun j v hv => ?_, Reps.of (by simp [hyl]) fun j d v hd hv => ?_⟩
      · obtain ⟨hj, rfl⟩ := rangeMap_get hv
        have h := k5 0 j (Enc.e y) _ rfl (List.getElem?_eq_getElem (by omega))
        rwa [Nat.zero_mul, Nat.add_zero] at h
      · obtain ⟨hj, rfl⟩ := rangeMap_get hv
        exact k6 0 j (Enc.e y) d rfl hd
    | _ => cases hd
  have hc1 : ∀ v ∈ cs, v.oneCell' = true := hcr.one
  refine ⟨(l.take a ++ [y] ++ l.drop a).map Enc.e, ?_, fun x hx => ?_, ?_⟩
  · show [Dt.l (Enc.n α) _] = _
    rw [hn]; rfl
  · obtain ⟨z, _, rfl⟩ := List.mem_map.1 hx
    rw [Enc.len, hn]
  have hl2 : ((l.take a ++ [y] ++ l.drop a).map (Enc.e (α := α))).length = l.length + 1 := by
    rw [List.length_map, List.length_append, List.length_append, List.length_take, List.length_drop, List.length_singleton]; omega
  have hflat : ((l.take a ++ [y] ++ l.drop a).map (Enc.e (α := α))).flatten = (l.map Enc.e).flatten.take (a * sz) ++ Enc.e y ++ (l.map Enc.e).flatten.drop (a * sz) := by
    rw [List.map_append, List.map_append, List.map_take, List.map_drop, List.flatten_append, List.flatten_append, flat_takeR a hxs, flat_dropR a hxs]
    simp
  rw [hl2, hflat]
  have hle3 : a * sz ≤ l.length * sz := Nat.mul_le_mul_right _ (by omega)
  have hnew : ∀ {W' : World}, Agree F W W' → Reps W' F ((l.map Enc.e).flatten.take (a * sz) ++ Enc.e y ++ (l.map Enc.e).flatten.drop (a * sz)) (cells.take (a * sz) ++ cs ++ cells.drop (a * sz)) := fun hag => (((hreps.take (a * sz)).append hcr).append (hreps.drop (a * sz))).mono hag (fun _ h => h)
  have hnl : (cells.take (a * sz) ++ cs ++ cells.drop (a * sz)).length = (l.length + 1) * sz := by
    rw [List.length_append, List.length_append, List.length_take, List.length_drop, hcl, hml, Nat.min_eq_left hle3, Nat.succ_mul]; omega
  by_cases hend' : a = l.length
  · subst hend'
    refine .inl ⟨hen.run _ _, (hend W base v l.length b off c cells cs hown hbase (by omega) hcl hcell hc1).mono ?_⟩
    rintro r W' ⟨v', rfl, q1, q2, q3⟩
    have hag : Agree F W W' := fun k hk => q2.block k (hF k hk) fun h => hvF k h.symm hk
    refine ⟨_, rfl, v', _, ⟨fun h => (by cases h), fun _ => rfl⟩, q2, ?_, hnew hag, fun k hk => ?_⟩
    · rw [List.take_of_length_le (by omega), List.drop_of_length_le (by omega), List.append_nil]; exact q1
    · rcases q3 with q3 | q3
      · exact .inl (q3 ▸ hk)
      · rw [q3] at hk; injection hk with hk; exact .inr (Nat.le_of_eq hk)
  · rcases hown.2 with ⟨rfl, h0⟩ | ⟨g, cap, cur, rfl, hbg, hg, h1, h2, hcs, htk⟩
    · omega
    · have hcs' : cur.toList.length = cap * sz := by simpa using hcs
      have hones : ∀ u ∈ cur.toList.take (l.length * sz), u.oneCell' = true := by rw [htk]; exact hreps.one
      have hgF : ¬ F g := hvF g rfl
      have hbg' : b ≠ g := fun h => hgF (h ▸ hFb)
      have hg' : W.heap[g]? = some (.cells cur.toList.toArray e (0, 0)) := by simpa using hg
      have hal : a < l.length := by omega
      have hmvl : ((cur.toList.take (l.length * sz)).drop (a * sz)).length = (l.length - a) * sz := by rw [htk, List.length_drop, hml, Nat.sub_mul]
      have e1 : (a + 1) * sz = a * sz + sz := Nat.succ_mul ..
      have e2 : (a + 1) * sz + (l.length - a) * sz = (l.length + 1) * sz := by rw [← Nat.add_mul]; congr 1; omega
      have hsplit : ∀ vs' : List Value, (l.length + 1) * sz ≤ vs'.length → vs'.take (a * sz) = cells.take (a * sz) → (setV (setV vs' ((a + 1) * sz) ((cur.toList.take (l.length * sz)).drop (a * sz))) (a * sz) cs).take ((l.length + 1) * sz) = cells.take (a * sz) ++ cs ++ cells.drop (a * sz) := by
        intro vs' hl' ht'
        have k1 : a * sz + cs.length ≤ (setV vs' ((a + 1) * sz) ((cur.toList.take (l.length * sz)).drop (a * sz))).length := by rw [setV_len]; omega
        rw [setV_at k1, setV_at (by rw [hmvl]; omega), hcl, hmvl, e2, htk]
        have k2 : (vs'.take ((a + 1) * sz) ++ cells.drop (a * sz) ++ vs'.drop ((l.length + 1) * sz)).take (a * sz) = cells.take (a * sz) := by
          rw [List.append_assoc, List.take_append_of_le_length (by rw [List.length_take]; omega), List.take_take, Nat.min_eq_left (by omega), ht']
        have k3 : (vs'.take ((a + 1) * sz) ++ cells.drop (a * sz) ++ vs'.drop ((l.length + 1) * sz)).drop (a * sz + sz) = cells.drop (a * sz) ++ vs'.drop ((l.length + 1) * sz) := by
          rw [List.append_assoc, List.drop_append, List.drop_of_length_le (by rw [List.length_take]; omega), List.length_take, Nat.min_eq_left (by omega), e1, Nat.sub_self, List.nil_append, List.drop_zero]
        rw [k2, k3, ← List.append_assoc, List.take_append_of_le_length (by rw [hnl]; omega), List.take_of_length_le (by rw [hnl]; omega)]
      rcases Nat.lt_or_ge l.length cap with hr | hr
      · have hcapm : (l.length + 1) * sz ≤ cap * sz := Nat.mul_le_mul_right _ hr
        refine .inl ⟨hen.run _ _, (hroom W g l.length cap a b off c cur.toList cs hg' hr h2 hcs' hones hal hbg' hcl hcell hc1).mono ?_⟩
        rintro r W' ⟨rfl, rfl⟩
        have hfar : ∀ k, k ≠ g → (((W.drewN 1).setCells g ((a + 1) * sz) ((cur.toList.take (l.length * sz)).drop (a * sz))).setCells g (a * sz) cs).heap[k]? = W.heap[k]? := by
          intro k hk
          rw [hcells_far g _ _ _ k hk, hcells_far g _ _ _ k hk]
          rfl
        have hag : Agree F W (((W.drewN 1).setCells g ((a + 1) * sz) ((cur.toList.take (l.length * sz)).drop (a * sz))).setCells g (a * sz) cs) := fun k hk => hfar k fun h => hgF (h ▸ hk)
        refine ⟨_, rfl, _, _, ⟨fun h => (by cases h), fun _ => rfl⟩, ?_, ⟨hnl, .inr ⟨g, cap, _, rfl, hbg, hcells_heap cs (a * sz) _ _ (hcells_heap _ ((a + 1) * sz) (W.drewN 1) _ hg'), hr, h2, by rw [List.size_toArray, setV_len, setV_len]; exact hcs', ?_⟩⟩, hnew hag, fun _ h => .inl h⟩
        · obtain ⟨k1, k2, k3, k4⟩ := hcells_grown g cs (a * sz) ((W.drewN 1).setCells g ((a + 1) * sz) ((cur.toList.take (l.length * sz)).drop (a * sz)))
          obtain ⟨q1, q2, q3, q4⟩ := hcells_grown g ((cur.toList.take (l.length * sz)).drop (a * sz)) ((a + 1) * sz) (W.drewN 1)
          exact ⟨k1.trans q1, k2.trans q2, k3.trans q3, by rw [k4, q4]; exact Nat.le_refl _, fun k hk hne => hfar k fun h => hne (by rw [h]; rfl)⟩
        · rw [List.toList_toArray]
          refine hsplit _ (by omega) ?_
          rw [← htk, List.take_take, Nat.min_eq_left hle3]
      · have hcap : l.length = cap := by omega
        refine .inl ⟨hen.run _ _, (hgrow W g l.length cap a b off c cur.toList cs hg' hcap (by omega) hcs' hones hal hcl hcell hc1).mono ?_⟩
        rintro r W' ⟨G, row, r1, r2, r3, rfl, r4, r5, rfl⟩
        have hGm : (l.length + 1) * sz ≤ G * sz := Nat.mul_le_mul_right _ r1
        generalize hW0 : (W.alloc (.cells row.toArray e)).drew = W0
        have hs0 : W0.heap.size = W.heap.size + 1 := by rw [← hW0]; show (W.heap.push _).size = _; simp
        have hn0 : W0.heap[W.heap.size]? = some (.cells row.toArray e (0, 0)) := by rw [← hW0]; exact heap_alloc_new W _
        have ho0 : ∀ k, k < W.heap.size → W0.heap[k]? = W.heap[k]? := fun k hk => by
          rw [← hW0]
          show (W.alloc (.cells row.toArray e)).heap[k]? = _
          simp only [World.alloc, Array.getElem?_push, Nat.ne_of_lt hk, if_false]
        have hfar : ∀ k, k < W.heap.size → (((W0.setCells W.heap.size (a * sz) cs).drew).setCells W.heap.size ((a + 1) * sz) ((cur.toList.take (l.length * sz)).drop (a * sz))).heap[k]? = W.heap[k]? := by
          intro k hk
          rw [hcells_far _ _ _ _ k (by omega)]
          show (W0.setCells W.heap.size (a * sz) cs).heap[k]? = _
          rw [hcells_far _ _ _ _ k (by omega), ho0 k hk]
        obtain ⟨z1, z2, z3⟩ : W0.os = W.os ∧ W0.tape = W.tape ∧ W0.output = W.output := by rw [← hW0]; exact ⟨rfl, rfl, rfl⟩
        have hag : Agree F W (((W0.setCells W.heap.size (a * sz) cs).drew).setCells W.heap.size ((a + 1) * sz) ((cur.toList.take (l.length * sz)).drop (a * sz))) := fun k hk => hfar k (hF k hk)
        have hheap := hcells_heap ((cur.toList.take (l.length * sz)).drop (a * sz)) ((a + 1) * sz) ((W0.setCells W.heap.size (a * sz) cs).drew) _ (hcells_heap cs (a * sz) W0 _ hn0)
        refine ⟨_, rfl, _, _, ⟨fun h => (by cases h), fun _ => rfl⟩, ?_, ⟨hnl, .inr ⟨W.heap.size, G, _, rfl, hbase, hheap, r1, r2, by rw [List.size_toArray, setV_len, setV_len]; exact r3, ?_⟩⟩, hnew hag, fun k hk => ?_⟩
        · obtain ⟨k1, k2, k3, k4⟩ := hcells_grown W.heap.size ((cur.toList.take (l.length * sz)).drop (a * sz)) ((a + 1) * sz) ((W0.setCells W.heap.size (a * sz) cs).drew)
          obtain ⟨q1, q2, q3, q4⟩ := hcells_grown W.heap.size cs (a * sz) W0
          refine ⟨k1.trans (q1.trans z1), k2.trans (q2.trans z2), k3.trans (q3.trans z3), ?_, fun k hk hne => hfar k hk⟩
          rw [k4]
          show W.heap.size ≤ (W0.setCells W.heap.size (a * sz) cs).heap.size
          rw [q4, hs0]; omega
        · rw [List.toList_toArray]
          have hswap : setV (setV row (a * sz) cs) ((a + 1) * sz) ((cur.toList.take (l.length * sz)).drop (a * sz)) = setV (setV row ((a + 1) * sz) ((cur.toList.take (l.length * sz)).drop (a * sz))) (a * sz) cs := by
            have hL : a * sz + cs.length ≤ row.length := by omega
            have hR : (a + 1) * sz + ((cur.toList.take (l.length * sz)).drop (a * sz)).length ≤ row.length := by rw [hmvl]; omega
            rw [setV_at (vs := setV row (a * sz) cs) (by rw [setV_len]; exact hR), setV_at hL, setV_at (vs := setV row ((a + 1) * sz) _) (by rw [setV_len]; exact hL), setV_at hR]
            have t1 : (row.take (a * sz) ++ cs ++ row.drop (a * sz + cs.length)).take ((a + 1) * sz) = row.take (a * sz) ++ cs := by
              rw [List.take_append_of_le_length (by rw [List.length_append, List.length_take]; omega), List.take_of_length_le (by rw [List.length_append, List.length_take]; omega)]
            have t2 : (row.take (a * sz) ++ cs ++ row.drop (a * sz + cs.length)).drop ((a + 1) * sz + ((cur.toList.take (l.length * sz)).drop (a * sz)).length) = row.drop ((a + 1) * sz + ((cur.toList.take (l.length * sz)).drop (a * sz)).length) := by
              rw [List.drop_append, List.drop_of_length_le (by rw [List.length_append, List.length_take]; omega), List.nil_append, List.drop_drop]
              congr 1
              rw [List.length_append, List.length_take]; omega
            have t3 : (row.take ((a + 1) * sz) ++ ((cur.toList.take (l.length * sz)).drop (a * sz)) ++ row.drop ((a + 1) * sz + ((cur.toList.take (l.length * sz)).drop (a * sz)).length)).take (a * sz) = row.take (a * sz) := by
              rw [List.append_assoc, List.take_append_of_le_length (by rw [List.length_take]; omega), List.take_take, Nat.min_eq_left (by omega)]
            have t4 : (row.take ((a + 1) * sz) ++ ((cur.toList.take (l.length * sz)).drop (a * sz)) ++ row.drop ((a + 1) * sz + ((cur.toList.take (l.length * sz)).drop (a * sz)).length)).drop (a * sz + cs.length) = ((cur.toList.take (l.length * sz)).drop (a * sz)) ++ row.drop ((a + 1) * sz + ((cur.toList.take (l.length * sz)).drop (a * sz)).length) := by
              rw [List.append_assoc, List.drop_append, List.drop_of_length_le (by rw [List.length_take]; omega), List.nil_append, List.length_take, Nat.min_eq_left (by omega), hcl, e1, Nat.sub_self, List.drop_zero]
            rw [t1, t2, t3, t4, List.append_assoc, List.append_assoc]
          rw [hswap]
          refine hsplit _ (by omega) ?_
          rw [r5, ← htk, List.take_take, Nat.min_eq_left hle3]
        · simp only [Value.ownBlock, Option.some.injEq] at hk
          exact .inr (Nat.le_of_eq hk)
end
end Go.Proofs.Ytnnbnjanekibpaa
namespace Go.Proofs.Ytnnbnjanekibpaa
open Go.RowKit
set_option linter.unusedVariables false
set_option linter.unusedSimpArgs false
set_option maxRecDepth 100000
set_option maxHeartbeats 4000000
theorem del_walk {W : World} {g n cap i j : Nat} {vs : List Value} (hg : W.heap[g]? = some (.cells vs.toArray 100 (0, 0))) (hn : n ≤ cap) (hm : cap ≤ maxLen) (hcs : vs.length = cap * 6) (h1 : ∀ u ∈ vs.take (n * 6), u.oneCell' = true) (hij : i < j) (hj : j ≤ n) :
    Calls Try.prog 105 #[.slice (some ⟨g, 0, none⟩) n cap, .int .i64 i, .int .i64 j] W fun e w' => e = .returned (.slice (some ⟨g, 0, none⟩) (n - (j - i)) cap) ∧
      w' = ((W.drewN 1).setCells g (i * 6) ((vs.take (n * 6)).drop (j * 6))).setCells g ((i + (n - j)) * 6) (Builtin.zeroCells #[.int .i64 0, .int .i64 0, .int .i64 0, .slice none 0 0, .int .i64 0, .bool false] (j - i)).toList := by
  have hm' : cap ≤ 9223372036854775807 := hm
  obtain ⟨news, hnews⟩ : ∃ news, news = (vs.take (n * 6)).drop (j * 6) := ⟨_, rfl⟩
  have hlen : news.length = (n - j) * 6 := by rw [hnews, List.length_drop, List.length_take]; omega
  have hg1 : W.drew.heap[g]? = some (.cells vs.toArray 100 (0, 0)) := hg
  obtain ⟨A, hA, hsrc⟩ : ∃ A : Addr, (if cap = j then some (⟨g, 0, none⟩ : Addr) else some ⟨g, j * 6, none⟩) = some A ∧ Hid (∀ t u, news[t]? = some u → W.drew.cell? (A.add t) = some u) := by
    by_cases h : cap = j
    · refine ⟨⟨g, 0, none⟩, by simp [h], fun t u hu => ?_⟩
      have := (List.getElem?_eq_some_iff.1 hu).1
      omega
    · refine ⟨⟨g, j * 6, none⟩, by simp [h], fun t u hu => ?_⟩
      have ht := (List.getElem?_eq_some_iff.1 hu).1
      rw [hnews, List.getElem?_drop, List.getElem?_take, if_pos (by omega)] at hu
      rw [add_mk, cell_of_row _ g _ _ 100 (0, 0) hg1]
      simpa using hu
  have s1 : Hid (news.length = (n - j) * 6) := hlen
  have s2 : Hid (∀ u ∈ news, u.oneCell' = true) := by
    intro u hu
    rw [hnews] at hu
    exact h1 u (List.mem_of_mem_drop hu)
  have s3 : Hid (∀ t, t < news.length → (W.drew.cell? ⟨g, 0 + i * 6 + t, none⟩).isSome = true ∧ W.drew.frozen? ⟨g, 0 + i * 6 + t, none⟩ = false) := by
    intro t ht
    have := hthere (fr := (0, 0)) hg1 (o := 0 + i * 6) (n := news.length) (by omega)
    exact this t ht
  obtain ⟨W1, hW1⟩ : ∃ W1, W1 = W.drew.setCells g (0 + i * 6) news := ⟨_, rfl⟩
  have hg2 : W1.heap[g]? = some (.cells (setV vs (0 + i * 6) news).toArray 100 (0, 0)) := by rw [hW1]; exact hcells_heap _ _ _ _ hg1
  have hcl : ∀ ty, (Builtin.clear_ #[77] ty #[.slice (some ⟨g, (i + (n - j)) * 6, none⟩) (n - (i + (n - j))) (cap - (i + (n - j)))]).run Try.prog W1 = .ok (.tuple #[]) (W1.setCells g ((i + (n - j)) * 6) (Builtin.zeroCells #[.int .i64 0, .int .i64 0, .int .i64 0, .slice none 0 0, .int .i64 0, .bool false] (n - (i + (n - j)))).toList) :=
    fun ty => clear_run (sz := 6) Try.underlying77 Try.zeroValue100 rfl (by simp [Value.cells, Value.oneCell']) hg2 (by rw [setV_len]; omega)
  have hW : Hid (W1 = W.drew.setCells g (0 + i * 6) news) := hW1
  have hic : i ≤ cap := by omega
  have hjc : j ≤ cap := by omega
  have hnews := Lib.hid hnews
  clear hW1 hg2 hg hg1 hlen
  go_enter Try.func105, Try.ntmps105
  go_wp2_with fail
  obtain ⟨ht, ie, zv, he, hz0, hsz, hbz, hzs⟩ := sl_coin
  go_region_law (refine step_append_room rfl (.tmp 22) (.tmp 25) 77 rfl 100 ie 6 ht he hsz g 0 i cap (by simp [Act.eval, Act.put]) A (n - j) (cap - j) news (by simp [Act.eval, Act.put, hA]) s1.out hsrc.out s2.out (by omega) s3.out ?_; rw [← hW.out])
  go_wp2
  go_ret
  refine ⟨by rw [show n - (j - i) = i + (n - j) by omega]; rfl, ?_⟩
  rw [hW.out, Nat.zero_add, hnews.out, show n - (i + (n - j)) = j - i by omega]
  rfl
theorem del_none {W : World} {A : Option Addr} {n cap i : Nat} (hi : i ≤ n) (hn : n ≤ cap) (hm : cap ≤ maxLen) : Calls Try.prog 105 #[.slice A n cap, .int .i64 i, .int .i64 i] W fun r W' => r = .returned (.slice A n cap) ∧ W' = W := by
  have hm' : cap ≤ 9223372036854775807 := hm
  have hic : i ≤ cap := by omega
  go_enter Try.func105, Try.ntmps105
  go_wp2_with fail
  all_goals (go_ret; exact ⟨rfl, rfl⟩)
noncomputable def sp_delCoin : Spec := spD (fun x : List Coin × Int × Int => 0 ≤ x.2.1 ∧ x.2.1 ≤ x.2.2 ∧ x.2.2 ≤ x.1.length) fun x => x.1.take x.2.1.toNat ++ x.1.drop x.2.2.toNat
theorem m_delCoin : Meets Try.prog sp_delCoin 105 ⟨[.mine 100 6, .one, .one], [(false, [.fresh 100 6])], false⟩ :=
  meets_del rfl (by decide) (en_of (fn := Try.f105) (by kernel_rfl) (by kernel_rfl) (by kernel_rfl)) #[.int .i64 0, .int .i64 0, .int .i64 0, .slice none 0 0, .int .i64 0, .bool false] rfl (fun W A n cap i h1 h2 h3 => del_none h1 h2 h3) (fun W g n cap i j vs h1 h2 h3 h4 h5 h6 h7 => del_walk h1 h2 h3 h4 h5 h6 h7)
end Go.Proofs.Ytnnbnjanekibpaa
namespace Go.Proofs.Ytnnbnjanekibpaa
open Go.RowKit
set_option linter.unusedVariables false
set_option linter.unusedSimpArgs false
set_option maxRecDepth 100000
set_option maxHeartbeats 4000000
theorem ins_over {W : World} {g o b off la ca lb cb : Nat} {vs : List Value} (hg : W.heap[g]? = some (.cells vs.toArray 100 (0, 0))) (hvs : 0 < vs.length) (hne : b ≠ g) {u : Value} (hb : W.cell? ⟨b, off, none⟩ = some u) :
    (callFunc 120 #[.slice (some ⟨b, off, none⟩) la ca, .slice (some ⟨g, o, none⟩) lb cb]).run Try.prog W = .ok (.value (.bool false)) W := by
  rw [run_callFunc_extern Try.func120 (by kernel_rfl) (by kernel_rfl) (by kernel_rfl) (e := Extern.SlicesOverlaps.overlaps #[77, 77] #[4]) (by kernel_rfl),
    overlaps_run (e := 100) (sz := 6) Try.underlying77 Try.sizeOf100 hg hvs hne hb]
  rfl
theorem ins_room {W : World} {g n cap i b off c : Nat} {vs cs : List Value} (hg : W.heap[g]? = some (.cells vs.toArray 100 (0, 0))) (hn : n < cap) (hm : cap ≤ maxLen) (hcs : vs.length = cap * 6) (h1 : ∀ u ∈ vs.take (n * 6), u.oneCell' = true) (hi : i < n) (hne : b ≠ g) (hcl : cs.length = 6) (hb : ∀ j v, cs[j]? = some v → W.cell? ⟨b, off + j, none⟩ = some v) (h1c : ∀ v ∈ cs, v.oneCell' = true) :
    Calls Try.prog 96 #[.slice (some ⟨g, 0, none⟩) n cap, .int .i64 i, .slice (some ⟨b, off, none⟩) 1 c] W fun r W' => r = .returned (.slice (some ⟨g, 0, none⟩) (n + 1) cap) ∧ W' = ((W.drewN 1).setCells g ((i + 1) * 6) ((vs.take (n * 6)).drop (i * 6))).setCells g (i * 6) cs := by
  have hm' : cap ≤ 9223372036854775807 := hm
  obtain ⟨mv, hmv⟩ : ∃ mv, mv = (vs.take (n * 6)).drop (i * 6) := ⟨_, rfl⟩
  have hlen : mv.length = (n - i) * 6 := by rw [hmv, List.length_drop, List.length_take]; omega
  have hg1 : W.drew.heap[g]? = some (.cells vs.toArray 100 (0, 0)) := hg
  obtain ⟨u0, hu0⟩ : ∃ u, W.cell? ⟨b, off, none⟩ = some u := by
    have h := hb 0 (cs[0]'(by omega)) (List.getElem?_eq_getElem (by omega))
    exact ⟨_, h⟩
  have hov : ∀ lb cb, (callFunc 120 #[.slice (some ⟨b, off, none⟩) 1 c, .slice (some ⟨g, (i + 1) * 6, none⟩) lb cb]).run Try.prog W = .ok (.value (.bool false)) W := fun lb cb => ins_over hg (by omega) hne hu0
  have hsz : (Try.prog.info? 100).map (·.size) = some 6 := by kernel_rfl
  have hcp1 : ∀ ty dc sc, (Builtin.copy_ #[77, 77] ty #[.slice (some ⟨g, (i + 1) * 6, none⟩) (n - i) dc, .slice (some ⟨g, i * 6, none⟩) (n + 1 - i) sc]).run Try.prog W.drew = .ok (goInt (Nat.min (n + 1 - i) (n - i) : Nat)) (W.drew.setCells g ((i + 1) * 6) mv) := fun ty dc sc =>
    copy_run Try.underlying77 hsz hg1 (by rw [hlen]; show _ = min _ _ * 6; rw [Nat.min_def]; split <;> omega) (fun j v hj => by
      rw [add_mk, cell_of_row _ g _ _ 100 (0, 0) hg1]
      have hlt := (List.getElem?_eq_some_iff.1 hj).1
      rw [hmv, List.getElem?_drop, List.getElem?_take, if_pos (by omega)] at hj
      simpa using hj) (by omega) (fun v hv => h1 v (by rw [hmv] at hv; exact List.mem_of_mem_drop hv))
  obtain ⟨W1, hW1⟩ : ∃ W1, W1 = W.drew.setCells g ((i + 1) * 6) mv := ⟨_, rfl⟩
  have hg2 : W1.heap[g]? = some (.cells (setV vs ((i + 1) * 6) mv).toArray 100 (0, 0)) := by rw [hW1]; exact hcells_heap _ _ _ _ hg1
  have hcp2 : ∀ ty dc, (Builtin.copy_ #[77, 77] ty #[.slice (some ⟨g, i * 6, none⟩) (n + 1 - i) dc, .slice (some ⟨b, off, none⟩) 1 c]).run Try.prog W1 = .ok (goInt (Nat.min 1 (n + 1 - i) : Nat)) (W1.setCells g (i * 6) cs) := fun ty dc =>
    copy_run Try.underlying77 hsz hg2 (by rw [hcl]; show _ = min _ _ * 6; rw [Nat.min_def]; split <;> omega) (fun j v hj => by
      rw [add_mk, hW1, cells_far hne]
      exact hb j v hj) (by rw [setV_len]; omega) h1c
  rw [← hW1] at hcp1
  have hw1 : IntKind.i64.wrap ((i : Int) + 1) = (i : Int) + 1 := by rw [IntKind.wrap_i64]; omega
  have hw2 : IntKind.i64.wrap ((n : Int) + 1) = (n : Int) + 1 := by rw [IntKind.wrap_i64]; omega
  have hz2 : ¬ ((i : Int) = (n : Int)) := by omega
  have hp1 : (i : Int) ≤ (n : Int) + 1 := by omega
  have hp0 : (0 : Int) ≤ (i : Int) + 1 := by omega
  have hb1 : ¬ (cap = i + 1) := by omega
  have hb4 : ¬ (cap = i) := by omega
  have hin : i ≤ n := by omega
  have hic : i ≤ cap := by omega
  have hW := Lib.hid hW1
  have hmv' := Lib.hid hmv
  clear hmv hlen hg hg1 hg2 hW1 hcs h1 hb h1c hcl hu0
  go_enter Try.func96, Try.ntmps96
  go_wp2_with (simp only [hov])
  go_region_law (refine step_copy_r rfl _ _ 77 77 rfl _ _ (by simp [Act.eval, Act.put]) (by simp [Act.eval, Act.put]) (hcp1 _ _ _) ?_)
  go_wp2_with (at_builtin; refine wpList_copy_r rfl _ _ 77 77 rfl _ _ rfl rfl (hcp2 _ _) ?_)
  go_ret
  refine ⟨rfl, ?_⟩
  rw [hW.out, hmv'.out]
  rfl
theorem ins_end {W : World} {base : Nat} {v : Value} {n b off c : Nat} {olds cs : List Value} (hown : W.ownsRow base 100 6 v n olds) (hbase : base ≤ W.heap.size) (hn : n ≤ 1000000) (hcl : cs.length = 6) (hb : ∀ j v, cs[j]? = some v → W.cell? ⟨b, off + j, none⟩ = some v) (h1c : ∀ v ∈ cs, v.oneCell' = true) :
    Calls Try.prog 96 #[v, .int .i64 n, .slice (some ⟨b, off, none⟩) 1 c] W fun r W' => ∃ v', r = .returned v' ∧ W'.ownsRow base 100 6 v' (n + 1) (olds ++ cs) ∧ W.grownBy W' v.ownBlock ∧ (v'.ownBlock = v.ownBlock ∨ v'.ownBlock = some W.heap.size) := by
  obtain ⟨ht, ie, zv, he, hz0, hsz, hbz, hzs⟩ := sl_coin
  have hrun : ∀ ty, ∃ v' W', (Builtin.append_ #[77, 77] ty #[v, .slice (some ⟨b, off, none⟩) 1 c]).run Try.prog W = .ok v' W' ∧ W'.ownsRow base 100 6 v' (n + 1) (olds ++ cs) ∧ W.grownBy W' v.ownBlock ∧ (v'.ownBlock = v.ownBlock ∨ v'.ownBlock = some W.heap.size) := fun ty => by
    obtain ⟨v', W', hr, h2, h3, _, h5⟩ := run_append_own_at (P := Try.prog) W base 77 ty 100 ie zv 6 64 ht he hz0 hsz hbz hzs (by decide) v n olds hown ⟨b, off, none⟩ 1 c cs (by omega) (fun j u hj => by rw [add_mk]; exact hb j u hj) h1c (by unfold maxLen; omega) (by omega) hbase
    exact ⟨v', W', hr, h2, h3, h5⟩
  obtain ⟨v', W', hr, h2, h3, h4⟩ := hrun 77
  have hv : ∃ A cap, v = .slice A n cap ∧ n ≤ cap ∧ cap ≤ maxLen := by
    rcases hown.2 with ⟨rfl, h0⟩ | ⟨g, cap, cur, rfl, _, _, h1, h2, _⟩
    · exact ⟨none, 0, by rw [h0], by omega, by unfold maxLen; omega⟩
    · exact ⟨_, cap, rfl, h1, h2⟩
  obtain ⟨A, cap, rfl, hc1, hc2⟩ := hv
  have hc3 : cap ≤ 9223372036854775807 := hc2
  have R := Lib.hid (And.intro h2 (And.intro h3 h4))
  clear h2 h3 h4 hown hrun hb h1c hcl hbase
  go_enter Try.func96, Try.ntmps96
  go_wp2_with (at_builtin; refine Lib.wpList_append_run _ rfl _ _ _ _ rfl _ _ rfl rfl _ _ hr ?_)
  all_goals (go_ret; have R' := R.out; first | exact ⟨v', rfl, R'⟩ | (subst_vars; exact ⟨v', rfl, R'⟩) | (cases A <;> exact ⟨v', rfl, R'⟩))
theorem ins_grow {W : World} {g n cap i b off c : Nat} {vs cs : List Value} (hg : W.heap[g]? = some (.cells vs.toArray 100 (0, 0))) (hn : n = cap) (hm : n ≤ 1000000) (hcs : vs.length = cap * 6) (h1 : ∀ u ∈ vs.take (n * 6), u.oneCell' = true) (hi : i < n) (hcl : cs.length = 6) (hb : ∀ j v, cs[j]? = some v → W.cell? ⟨b, off + j, none⟩ = some v) (h1c : ∀ v ∈ cs, v.oneCell' = true) :
    Calls Try.prog 96 #[.slice (some ⟨g, 0, none⟩) n cap, .int .i64 i, .slice (some ⟨b, off, none⟩) 1 c] W fun r W' => ∃ G, ∃ row : List Value, n + 1 ≤ G ∧ G ≤ maxLen ∧ row.length = G * 6 ∧ r = .returned (.slice (some ⟨W.heap.size, 0, none⟩) (n + 1) G) ∧ (∀ u ∈ row.take (i * 6), u.oneCell' = true) ∧ row.take (i * 6) = vs.take (i * 6) ∧
      W' = (((W.alloc (.cells row.toArray 100)).drew.setCells W.heap.size (i * 6) cs).drew).setCells W.heap.size ((i + 1) * 6) ((vs.take (n * 6)).drop (i * 6)) := by
  obtain ⟨ht, ie, zv, he, hz0, hszI, hbz, hzs⟩ := sl_coin
  have hz1 : ¬ ((1 : Int) = 0) := by decide
  have hz2 : ¬ ((i : Int) = (n : Int)) := by omega
  have hz3 : (cap : Int) < (n : Int) + 1 := by omega
  have hsz : (Try.prog.info? 100).map (·.size) = some 6 := by kernel_rfl
  have hgl : g < W.heap.size := by
    rcases Nat.lt_or_ge g W.heap.size with h | h
    · exact h
    · rw [Array.getElem?_eq_none h] at hg; cases hg
  have hbl : b < W.heap.size := block_lt_of_cell (hb 0 _ (List.getElem?_eq_getElem (by omega)))
  have hkk : (n : Int) + 1 - (i : Int) = ((n + 1 - i : Nat) : Int) := by omega
  have hik : i + (n + 1 - i) = n + 1 := by omega
  have hg1 : W.drew.heap[g]? = some (.cells vs.toArray 100 (0, 0)) := hg
  have hold : (Builtin.firstCells ie.size i (.slice (some ⟨g, 0, none⟩) i cap)).run Try.prog W.drew = .ok (vs.take (i * 6)).toArray W.drew := by
    rw [hszI]
    exact run_firstCells_some W.drew 6 i ⟨g, 0, none⟩ i cap (vs.take (i * 6)) (by rw [List.length_take]; omega) (fun j v hj => by
      rw [add_mk, cell_of_row _ g _ _ 100 (0, 0) hg1]
      rw [List.getElem?_take] at hj
      split at hj
      · simpa using hj
      · cases hj)
  have hrz : ∀ ty, (Builtin.append_ #[77, 3] ty #[.slice (some ⟨g, 0, none⟩) i cap, .int .i64 ((n : Int) + 1 - (i : Int))]).run Try.prog W =
      .ok (.slice (some ⟨W.heap.size, 0, none⟩) (n + 1) (grownCap W (n + 1) cap 100)) (W.drew.alloc (.cells ((vs.take (i * 6)).toArray ++ Builtin.zeroCells zv.cells (n + 1 - i) ++ Builtin.zeroCells zv.cells (grownCap W (n + 1) cap 100 - (n + 1))) 100)) := fun ty => by
    have h := Lib.run_append_grow_zeros W 77 3 ty 100 ie zv .i64 .i64 ht Try.underlying3 he hz0 (some ⟨g, 0, none⟩) i cap (vs.take (i * 6)) hold (n + 1 - i) (by omega) (by omega) (by omega) (by omega) (by rw [hbz]; omega) (by rw [hbz, hik]; exact growslice_fits (by omega) (by omega))
    rw [hik] at h
    rw [hkk]
    exact h
  obtain ⟨G, hG⟩ : ∃ G, G = grownCap W (n + 1) cap 100 := ⟨_, rfl⟩
  obtain ⟨row, hrow⟩ : ∃ row : List Value, row = vs.take (i * 6) ++ (Builtin.zeroCells zv.cells (n + 1 - i)).toList ++ (Builtin.zeroCells zv.cells (G - (n + 1))).toList := ⟨_, rfl⟩
  have hrowA : row.toArray = (vs.take (i * 6)).toArray ++ Builtin.zeroCells zv.cells (n + 1 - i) ++ Builtin.zeroCells zv.cells (G - (n + 1)) := by rw [hrow]; simp
  rw [← hG, ← hrowA] at hrz
  have hGn : n + 1 ≤ G := by rw [hG]; exact grownCap_ge W _ _ _
  have hGm : G ≤ maxLen := by rw [hG]; exact grownCap_le_maxLen W (n + 1) cap 100 (by unfold maxLen; omega)
  have hG63 : G ≤ 9223372036854775807 := hGm
  have hrl : row.length = G * 6 := by
    rw [hrow]
    simp only [List.length_append, List.length_take, Array.length_toList, Builtin.zeroCells, Array.size_map, Array.size_range, hzs]
    omega
  have hrt : row.take (i * 6) = vs.take (i * 6) := by
    rw [hrow, List.append_assoc, List.take_append_of_le_length (by rw [List.length_take]; omega), List.take_take, Nat.min_self]
  obtain ⟨mv, hmv⟩ : ∃ mv, mv = (vs.take (n * 6)).drop (i * 6) := ⟨_, rfl⟩
  have hlen : mv.length = (n - i) * 6 := by rw [hmv, List.length_drop, List.length_take]; omega
  have hcpA : ∀ (W' : World), W'.heap[W.heap.size]? = some (.cells row.toArray 100 (0, 0)) → (∀ k v, W.cell? ⟨b, k, none⟩ = some v → W'.cell? ⟨b, k, none⟩ = some v) → ∀ ty dc, (Builtin.copy_ #[77, 77] ty #[.slice (some ⟨W.heap.size, i * 6, none⟩) (n + 1 - i) dc, .slice (some ⟨b, off, none⟩) 1 c]).run Try.prog W' = .ok (goInt (Nat.min 1 (n + 1 - i) : Nat)) (W'.setCells W.heap.size (i * 6) cs) := fun W' h1' h2' ty dc =>
    copy_run ht hsz h1' (by rw [hcl]; show _ = min _ _ * 6; rw [Nat.min_def]; split <;> omega) (fun j v hj => by rw [add_mk]; exact h2' _ v (hb j v hj)) (by omega) h1c
  have hcpB : ∀ (W' : World) (vs' : List Value), vs'.length = G * 6 → W'.heap[W.heap.size]? = some (.cells vs'.toArray 100 (0, 0)) → W'.heap[g]? = some (.cells vs.toArray 100 (0, 0)) → ∀ ty dc sc, (Builtin.copy_ #[77, 77] ty #[.slice (some ⟨W.heap.size, (i + 1) * 6, none⟩) (n - i) dc, .slice (some ⟨g, i * 6, none⟩) (n - i) sc]).run Try.prog W' = .ok (goInt (Nat.min (n - i) (n - i) : Nat)) (W'.setCells W.heap.size ((i + 1) * 6) mv) := fun W' vs' hl' h1' h2' ty dc sc =>
    copy_run ht hsz h1' (by rw [hlen]; show _ = min _ _ * 6; rw [Nat.min_def]; split <;> omega) (fun j v hj => by
      rw [add_mk, cell_of_row _ g _ _ 100 (0, 0) h2']
      have hlt := (List.getElem?_eq_some_iff.1 hj).1
      rw [hmv, List.getElem?_drop, List.getElem?_take, if_pos (by omega)] at hj
      simpa using hj) (by omega) (fun v hv => h1 v (by rw [hmv] at hv; exact List.mem_of_mem_drop hv))
  have hA := hcpA ((W.alloc (.cells row.toArray 100)).drew) (heap_alloc_new W _) (fun k v h => cells_alloc _ h)
  have hA' := hcpA (W.drew.alloc (.cells row.toArray 100)) (heap_alloc_new W.drew _) (fun k v h => cells_alloc (W := W.drew) _ h)
  have hgold : (W.alloc (.cells row.toArray 100)).heap[g]? = some (.cells vs.toArray 100 (0, 0)) := by
    have : (W.alloc (.cells row.toArray 100)).heap[g]? = W.heap[g]? := by simp only [World.alloc, Array.getElem?_push, Nat.ne_of_lt hgl, if_false]
    rw [this]; exact hg
  have hB := hcpB (((W.alloc (.cells row.toArray 100)).drew.setCells W.heap.size (i * 6) cs).drew) (setV row (i * 6) cs) (by rw [setV_len, hrl]) (hcells_heap _ _ (W.alloc (.cells row.toArray 100)).drew _ (heap_alloc_new W _)) (by
    show ((W.alloc (.cells row.toArray 100)).drew.setCells W.heap.size (i * 6) cs).heap[g]? = _
    rw [hcells_far _ _ _ _ _ (by omega)]; exact hgold)
  have hw1 : IntKind.i64.wrap ((i : Int) + 1) = (i : Int) + 1 := by rw [IntKind.wrap_i64]; omega
  have hw2 : IntKind.i64.wrap ((n : Int) + 1) = (n : Int) + 1 := by rw [IntKind.wrap_i64]; omega
  have hp1 : (i : Int) ≤ (n : Int) + 1 := by omega
  have hp0 : (0 : Int) ≤ (i : Int) + 1 := by omega
  have hGi : ¬ (G = i) := by omega
  have hGi1 : ¬ (G = i + 1) := by omega
  have hci : ¬ (cap = i) := by omega
  have hin : i ≤ n := by omega
  have R : Hid (n + 1 ≤ G ∧ G ≤ maxLen ∧ row.length = G * 6 ∧ (∀ u ∈ row.take (i * 6), u.oneCell' = true) ∧ row.take (i * 6) = vs.take (i * 6) ∧ mv = (vs.take (n * 6)).drop (i * 6)) := Lib.hid ⟨hGn, hGm, hrl, fun u hu => h1 u (by rw [hrt] at hu; exact (List.take_sublist_take_left (by omega)).subset hu), hrt, hmv⟩
  have hic : i ≤ cap := by omega
  have hn' := Lib.hid hn
  clear hn hmv hlen hg hg1 hgold hcs h1 hb h1c hcl hcpA hcpB hrt hrl hrow hrowA hG hGm hold hkk hik
  go_enter Try.func96, Try.ntmps96
  go_wp2_with (first
    | (at_builtin; refine Lib.wpList_append_run _ rfl _ _ _ _ rfl _ _ rfl rfl _ _ (hrz _) ?_)
    | (at_builtin; refine wpList_copy_r rfl _ _ 77 77 rfl _ _ rfl rfl (hA' _ _) ?_)
    | (at_builtin; refine wpList_copy_r rfl _ _ 77 77 rfl _ _ rfl rfl (hA _ _) ?_))
  go_region_law (refine step_copy_r rfl _ _ 77 77 rfl _ _ (by simp [Act.eval, Act.put]) (by simp [Act.eval, Act.put]) (hB _ _ _) ?_)
  go_wp2
  go_ret
  obtain ⟨r1, r2, r3, r4, r5, r6⟩ := R.out
  exact ⟨G, row, r1, r2, r3, rfl, r4, r5, by rw [r6]⟩
noncomputable def sp_insCoin : Spec := spD (fun x : List Coin × Int × List Coin => 0 ≤ x.2.1 ∧ x.2.1 ≤ x.1.length ∧ x.1.length ≤ 1000000 ∧ x.2.2.length = 1) fun x => x.1.take x.2.1.toNat ++ x.2.2 ++ x.1.drop x.2.1.toNat
theorem m_insCoin : Meets Try.prog sp_insCoin 96 ⟨[.mine 100 6, .one, .one], [(false, [.fresh 100 6])], false⟩ :=
  meets_ins rfl (by decide) (en_of (fn := Try.f96) (by kernel_rfl) (by kernel_rfl) (by kernel_rfl)) (fun W g n cap i b off c vs cs h1 h2 h3 h4 h5 h6 h7 h8 h9 h10 => ins_room h1 h2 h3 h4 h5 h6 h7 h8 h9 h10) (fun W base v n b off c olds cs h1 h2 h3 h4 h5 h6 => ins_end h1 h2 h3 h4 h5 h6) (fun W g n cap i b off c vs cs h1 h2 h3 h4 h5 h6 h7 h8 h9 => ins_grow h1 h2 h3 h4 h5 h6 h7 h8 h9)
end Go.Proofs.Ytnnbnjanekibpaa
namespace Go.Proofs.Ytnnbnjanekibpaa
open Go.RowKit
set_option linter.unusedVariables false
set_option linter.unusedSimpArgs false
set_option maxRecDepth 100000
set_option maxHeartbeats 4000000
theorem sp_delCoin_at (l : List Coin) (i j : Int) (h : 0 ≤ i ∧ i ≤ j ∧ j ≤ l.length) : sp_delCoin [.l 6 (l.map eCoin), I i, I j] = some [.l 6 ((l.take i.toNat ++ l.drop j.toNat).map eCoin)] := spD_at (p := fun x : List Coin × Int × Int => 0 ≤ x.2.1 ∧ x.2.1 ≤ x.2.2 ∧ x.2.2 ≤ x.1.length) (f := fun x : List Coin × Int × Int => x.1.take x.2.1.toNat ++ x.1.drop x.2.2.toNat) (l, i, j) h
theorem sp_insCoin_at (l : List Coin) (i : Int) (c : Coin) (h : 0 ≤ i ∧ i ≤ l.length ∧ l.length ≤ 1000000) : sp_insCoin [.l 6 (l.map eCoin), I i, .l 6 ([c].map eCoin)] = some [.l 6 ((l.take i.toNat ++ [c] ++ l.drop i.toNat).map eCoin)] := spD_at (p := fun x : List Coin × Int × List Coin => 0 ≤ x.2.1 ∧ x.2.1 ≤ x.1.length ∧ x.1.length ≤ 1000000 ∧ x.2.2.length = 1) (f := fun x : List Coin × Int × List Coin => x.1.take x.2.1.toNat ++ x.2.2 ++ x.1.drop x.2.1.toNat) (l, i, [c]) ⟨h.1, h.2.1, h.2.2, rfl⟩
noncomputable def sp_unApply : Spec := spD (fun _ : List Coin × Tx × Int × Int => True) fun x => applyOf x.1 x.2.1 x.2.2.1 x.2.2.2
theorem sp_unApply_at (l : List Coin) (t : Tx) (nm h : Int) : sp_unApply [.l 6 (l.map eCoin), I t.height, .l 3 (t.ins.map eIn), .l 2 (t.outs.map eOut), I nm, I h] = some [.l 6 ((applyOf l t nm h).1.map eCoin), .l 6 ((applyOf l t nm h).2.1.map eCoin), I (applyOf l t nm h).2.2] := spD_at (f := fun x : List Coin × Tx × Int × Int => applyOf x.1 x.2.1 x.2.2.1 x.2.2.2) (l, t, nm, h) trivial
theorem scalOk_pps {a b : Dt} {n : Int} {pk : List PK} {l : Bool} {g : Bool} : scalOk ⟨pk, [(false, [.pure]), (g, [.pure]), (false, [.scal])], l⟩ [a, b, I n] := by
  intro i d hi hd
  match i, hi, hd with
  | 0, hi, _ => simp [cfsOf] at hi
  | 1, hi, _ => simp [cfsOf] at hi
  | 2, _, hd => simp only [List.getElem?_cons_succ, List.getElem?_cons_zero, Option.some.injEq] at hd; subst hd; rfl
  | i + 3, hi, _ => simp [cfsOf] at hi
theorem scalOk_ps {a : Dt} {n : Int} {pk : List PK} {l : Bool} {g : Bool} : scalOk ⟨pk, [(g, [.pure]), (false, [.scal])], l⟩ [a, I n] := by
  intro i d hi hd
  match i, hi, hd with
  | 0, hi, _ => simp [cfsOf] at hi
  | 1, _, hd => simp only [List.getElem?_cons_succ, List.getElem?_cons_zero, Option.some.injEq] at hd; subst hd; rfl
  | i + 2, hi, _ => simp [cfsOf] at hi
attribute [local irreducible] specOf spD ordP coinsCheck txCheck openOf feeOf runOf opsCheck
theorem sp_txCheck_at (t : Tx) : sp_txCheck [I t.height, .l 3 (t.ins.map eIn), .l 2 (t.outs.map eOut)] = some [I (txCheck t)] := spD_at (f := fun t : Tx => txCheck t) t trivial
def t_unApply_0 : T :=
  .lets [.bin .add (.v 28) (.c (.i .i64 1))] [] (.lets [.call 14 [.v 22, .v 28, .v 44] 0] [] (.lets [.bin .add (.v 23) (.c (.i .i64 1))] [] (.again 0 [.v 19, .v 20, .v 43, .v 45, .v
  46])))
def t_unApply_1 : T :=
  .ite (.v 41) (.ret [.c (.nil 6), .c (.nil 6), .c (.i .i64 8)]) (.lets [.mk 6 [[.v 31, .v 32, .v 33, .v 34, .v 35, .v 36]]] [] (.lets [.app 6 (.v 21) (.v 42)] [] t_unApply_0))
def t_unApply_2 : T :=
  .ite (.v 38) (.ret [.c (.nil 6), .c (.nil 6), .c (.i .i64 10)]) (.lets [.call 16 [.v 34, .v 27, .v 5] 0, .call 16 [.v 34, .v 27, .v 5] 1] [] (.lets [.not (.v 39)] [] t_unApply_1))
def t_unApply_3 : T :=
  .lets [.bin .add (.v 28) (.c (.i .i64 1))] [] (.lets [.call 14 [.v 22, .v 28, .v 42] 0] [] (.lets [.bin .add (.v 23) (.c (.i .i64 1))] [] (.again 0 [.v 19, .v 20, .v 41, .v 43, .v
  44])))
def t_unApply_4 : T :=
  .ite (.v 39) (.ret [.c (.nil 6), .c (.nil 6), .c (.i .i64 8)]) (.lets [.mk 6 [[.v 31, .v 32, .v 33, .v 34, .v 35, .v 36]]] [] (.lets [.app 6 (.v 21) (.v 40)] [] t_unApply_3))
def t_unApply_5 : T :=
  .ite (.v 36) (.lets [.bin .add (.v 35) (.c (.i .i64 2))] [] (.lets [.bin .lss (.v 5) (.v 37)] [] t_unApply_2)) (.lets [.call 16 [.v 34, .v 27, .v 5] 0, .call 16 [.v 34, .v 27, .v 5]
  1] [] (.lets [.not (.v 37)] [] t_unApply_4))
def t_unApply_6 : T :=
  .lets [.idx (.v 22) (.v 28) 0, .idx (.v 22) (.v 28) 1, .idx (.v 22) (.v 28) 2, .idx (.v 22) (.v 28) 3, .idx (.v 22) (.v 28) 4, .idx (.v 22) (.v 28) 5] [] t_unApply_5
def t_unApply_7 : T :=
  .lets [.call 6 [.v 22, .v 25, .v 26] 0, .call 6 [.v 22, .v 25, .v 26] 1] [] (.lets [.not (.v 29)] [] (.ite (.v 30) (.ret [.c (.nil 6), .c (.nil 6), .c (.i .i64 7)]) (.lets [] [.inr
  6 (.v 22) (.v 28)] t_unApply_6)))
def t_unApply_8 : T :=
  .lets [.mk 6 [[.v 4, .v 29, .v 31, .v 35, .v 5, .v 15]]] [] (.lets [.call 15 [.v 28, .v 33, .v 36] 0] [] (.lets [.bin .add (.v 29) (.c (.i .i64 1))] [] (.again 1 [.v 26, .v 27, .v
  37, .v 38])))
def t_unApply_9 : T :=
  .lets [.call 6 [.v 28, .v 4, .v 29] 0, .call 6 [.v 28, .v 4, .v 29] 1] [] (.ite (.v 34) (.ret [.c (.nil 6), .c (.nil 6), .c (.i .i64 6)]) (.lets [.call 10 [.v 32] 0] []
  t_unApply_8))
def t_unApply_10 : T :=
  .lets [.call 8 [.v 28] 0] [] (.lets [.bin .neq (.v 31) (.c (.i .i64 0))] [] (.ite (.v 32) (.ret [.c (.nil 6), .c (.nil 6), .v 31]) (.ret [.v 28, .v 21, .c (.i .i64 0)])))
def t_unApply_11 : T :=
  .lets [.bin .lss (.v 29) (.v 25)] [] (.ite (.v 30) (.lets [] [.inr 2 (.v 3) (.v 29)] (.lets [.idx (.v 3) (.v 29) 0, .idx (.v 3) (.v 29) 1] [] t_unApply_9)) t_unApply_10)
def t_unApply_12 : T :=
  .ite (.v 24) (.lets [] [.inr 3 (.v 2) (.v 23)] (.lets [.idx (.v 2) (.v 23) 0, .idx (.v 2) (.v 23) 1, .idx (.v 2) (.v 23) 2] [] t_unApply_7)) (.lets [.len (.v 3)] [] (.loop [.c (.nil
  6), .c (.i .i64 0), .v 22, .c (.i .i64 0)] t_unApply_11))
def t_unApply_13 : T :=
  .lets [.call 11 [.v 0] 0] [] (.lets [.len (.v 2)] [] (.loop [.c (.nil 6), .c (.i .i64 0), .c (.nil 6), .v 17, .c (.i .i64 0)] (.lets [.bin .lss (.v 23) (.v 18)] [] t_unApply_12)))
def t_unApply_14 : T :=
  .lets [.bin .add (.v 27) (.c (.i .i64 1))] [] (.lets [.call 14 [.v 21, .v 27, .v 43] 0] [] (.lets [.bin .add (.v 22) (.c (.i .i64 1))] [] (.again 0 [.v 18, .v 19, .v 42, .v 44, .v
  45])))
def t_unApply_15 : T :=
  .ite (.v 40) (.ret [.c (.nil 6), .c (.nil 6), .c (.i .i64 8)]) (.lets [.mk 6 [[.v 30, .v 31, .v 32, .v 33, .v 34, .v 35]]] [] (.lets [.app 6 (.v 20) (.v 41)] [] t_unApply_14))
def t_unApply_16 : T :=
  .ite (.v 37) (.ret [.c (.nil 6), .c (.nil 6), .c (.i .i64 10)]) (.lets [.call 16 [.v 33, .v 26, .v 5] 0, .call 16 [.v 33, .v 26, .v 5] 1] [] (.lets [.not (.v 38)] [] t_unApply_15))
def t_unApply_17 : T :=
  .lets [.bin .add (.v 27) (.c (.i .i64 1))] [] (.lets [.call 14 [.v 21, .v 27, .v 41] 0] [] (.lets [.bin .add (.v 22) (.c (.i .i64 1))] [] (.again 0 [.v 18, .v 19, .v 40, .v 42, .v
  43])))
def t_unApply_18 : T :=
  .ite (.v 38) (.ret [.c (.nil 6), .c (.nil 6), .c (.i .i64 8)]) (.lets [.mk 6 [[.v 30, .v 31, .v 32, .v 33, .v 34, .v 35]]] [] (.lets [.app 6 (.v 20) (.v 39)] [] t_unApply_17))
def t_unApply_19 : T :=
  .ite (.v 35) (.lets [.bin .add (.v 34) (.c (.i .i64 2))] [] (.lets [.bin .lss (.v 5) (.v 36)] [] t_unApply_16)) (.lets [.call 16 [.v 33, .v 26, .v 5] 0, .call 16 [.v 33, .v 26, .v
  5] 1] [] (.lets [.not (.v 36)] [] t_unApply_18))
def t_unApply_20 : T :=
  .lets [.idx (.v 21) (.v 27) 0, .idx (.v 21) (.v 27) 1, .idx (.v 21) (.v 27) 2, .idx (.v 21) (.v 27) 3, .idx (.v 21) (.v 27) 4, .idx (.v 21) (.v 27) 5] [] t_unApply_19
def t_unApply_21 : T :=
  .lets [.call 6 [.v 21, .v 24, .v 25] 0, .call 6 [.v 21, .v 24, .v 25] 1] [] (.lets [.not (.v 28)] [] (.ite (.v 29) (.ret [.c (.nil 6), .c (.nil 6), .c (.i .i64 7)]) (.lets [] [.inr
  6 (.v 21) (.v 27)] t_unApply_20)))
def t_unApply_22 : T :=
  .lets [.mk 6 [[.v 4, .v 30, .v 32, .v 36, .v 5, .v 15]]] [] (.lets [.call 15 [.v 29, .v 34, .v 37] 0] [] (.lets [.bin .add (.v 30) (.c (.i .i64 1))] [] (.again 1 [.v 27, .v 28, .v
  38, .v 39])))
def t_unApply_23 : T :=
  .lets [.call 6 [.v 29, .v 4, .v 30] 0, .call 6 [.v 29, .v 4, .v 30] 1] [] (.ite (.v 35) (.ret [.c (.nil 6), .c (.nil 6), .c (.i .i64 6)]) (.lets [.call 10 [.v 33] 0] []
  t_unApply_22))
def t_unApply_24 : T :=
  .lets [.call 8 [.v 29] 0] [] (.lets [.bin .neq (.v 32) (.c (.i .i64 0))] [] (.ite (.v 33) (.ret [.c (.nil 6), .c (.nil 6), .v 32]) (.ret [.v 29, .v 20, .c (.i .i64 0)])))
def t_unApply_25 : T :=
  .lets [.bin .lss (.v 30) (.v 26)] [] (.ite (.v 31) (.lets [] [.inr 2 (.v 3) (.v 30)] (.lets [.idx (.v 3) (.v 30) 0, .idx (.v 3) (.v 30) 1] [] t_unApply_23)) t_unApply_24)
def t_unApply_26 : T :=
  .ite (.v 25) (.ret [.c (.nil 6), .c (.nil 6), .c (.i .i64 9)]) (.lets [.len (.v 3)] [] (.loop [.c (.nil 6), .c (.i .i64 0), .v 21, .c (.i .i64 0)] t_unApply_25))
def t_unApply_27 : T :=
  .ite (.v 23) (.lets [] [.inr 3 (.v 2) (.v 22)] (.lets [.idx (.v 2) (.v 22) 0, .idx (.v 2) (.v 22) 1, .idx (.v 2) (.v 22) 2] [] t_unApply_21)) (.lets [.call 13 [.v 1, .v 2, .v 3, .v
  20] 0] [] (.lets [.bin .lss (.v 24) (.c (.i .i64 0))] [] t_unApply_26))
def t_unApply_28 : T :=
  .lets [.call 11 [.v 0] 0] [] (.lets [.len (.v 2)] [] (.loop [.c (.nil 6), .c (.i .i64 0), .c (.nil 6), .v 16, .c (.i .i64 0)] (.lets [.bin .lss (.v 22) (.v 17)] [] t_unApply_27)))
def t_unApply_29 : T :=
  .lets [.bin .eql (.v 14) (.c (.i .i64 0))] [] (.ite (.v 15) (.lets [.bin .neq (.v 1) (.v 5)] [] (.ite (.v 16) (.ret [.c (.nil 6), .c (.nil 6), .c (.i .i64 4)]) t_unApply_13))
  t_unApply_28)
def t_unApply_30 : T :=
  .ite (.v 12) (.ret [.c (.nil 6), .c (.nil 6), .c (.i .i64 3)]) (.lets [.bin .gtr (.v 5) (.c (.i .i64 1000))] [] (.ite (.v 13) (.ret [.c (.nil 6), .c (.nil 6), .c (.i .i64 3)])
  (.lets [.len (.v 2)] [] t_unApply_29)))
def t_unApply_31 : T :=
  .lets [.bin .gtr (.v 4) (.c (.i .i64 120))] [] (.ite (.v 11) (.ret [.c (.nil 6), .c (.nil 6), .c (.i .i64 3)]) (.lets [.bin .lss (.v 5) (.c (.i .i64 1))] [] t_unApply_30))
def t_unApply_32 : T :=
  .ite (.v 9) (.ret [.c (.nil 6), .c (.nil 6), .v 8]) (.lets [.bin .lss (.v 4) (.c (.i .i64 1))] [] (.ite (.v 10) (.ret [.c (.nil 6), .c (.nil 6), .c (.i .i64 3)]) t_unApply_31))
def t_unApply_33 : T :=
  .lets [.bin .neq (.v 6) (.c (.i .i64 0))] [] (.ite (.v 7) (.ret [.c (.nil 6), .c (.nil 6), .v 6]) (.lets [.call 17 [.v 1, .v 2, .v 3] 0] [] (.lets [.bin .neq (.v 8) (.c (.i .i64
  0))] [] t_unApply_32)))
def t_unApply : T :=
  .lets [.call 8 [.v 0] 0] [] t_unApply_33
theorem m_unApply : Meets Try.prog sp_unApply 51 ⟨[.one, .agg 3, .one, .one], [(false, [.pure]), (true, [.pure]), (false, [.scal])], false⟩ := by
  refine meets_fin (sp := (spsOf [(6, sp_unFind0), (8, sp_unCheck), (10, sp_clOp), (11, sp_unCopy), (13, sp_unFee), (14, sp_delCoin), (15, sp_insCoin), (16, sp_lockOpens), (17, sp_txCheck)])) (sigs := sigsA) (cut := []) (hints := [⟨19, [.r 8 100 6, .t 10, .r 0 100 6, .t 111, .z 84, .z 83, .z 78]⟩]) (fns := [fnOf 91 Try.f91 [⟨2, [.r 6 100 6, .t 8, .r 7 100 6, .r 0 100 6, .t 19]⟩] [], fnOf 89 Try.f89 [] []]) (dep := 2) (pool := 240) (fn := Try.f51) (t := t_unApply) (by kernel_rfl) (by kernel_rfl) (by kernel_rfl) ?_ ?_ ?_
  · exact (fnOk_cons (fn := Try.f91) (by kernel_rfl) (by kernel_rfl) (by kernel_rfl) (by kernel_rfl) (by kernel_rfl) (fnOk_cons (fn := Try.f89) (by kernel_rfl) (by kernel_rfl) (by kernel_rfl) (by kernel_rfl) (by kernel_rfl) fnOk_nil))
  · exact (sig_of (L := [(6, sp_unFind0), (8, sp_unCheck), (10, sp_clOp), (11, sp_unCopy), (13, sp_unFee), (14, sp_delCoin), (15, sp_insCoin), (16, sp_lockOpens), (17, sp_txCheck)]) ⟨sig_at rfl m_unFind0, sig_at rfl m_unCheck, sig_at rfl m_clOp, sig_at rfl m_unCopy, sig_at rfl m_unFee, sig_at rfl m_delCoin, sig_at rfl m_insCoin, sig_at rfl m_lockOpens, sig_at rfl m_txCheck, trivial⟩)
  · rintro ds rs - h
    obtain ⟨⟨l, t, nm, ht⟩, -, rfl, rfl⟩ := spD_some h
    clear h
    refine ⟨⟨t.ins.length + t.outs.length + 1, ?_⟩, scalOk_pps⟩
    show den _ _ t_unApply [.l 6 (l.map eCoin), I t.height, .l 3 (t.ins.map eIn), .l 2 (t.outs.map eOut), I nm, I ht] [] = ret (applyOf l t nm ht)
    unfold t_unApply applyOf
    repeat' (first | refine den_let1 (by first | exact dx_eql rfl rfl | exact dx_neq rfl rfl | exact dx_lss rfl rfl | exact dx_gtr rfl rfl | exact dx_geq rfl rfl | exact dx_leq rfl rfl | exact dx_len rfl | exact den_add rfl rfl (by omega) | exact den_sub rfl rfl (by omega) | exact dx_idx rfl rfl (by omega) (by first | assumption | exact hx) rfl | exact den_call rfl (sp_unCheck_at _) rfl | exact den_call rfl (sp_txCheck_at _) rfl | exact dx_not rfl | exact dx_len0 rfl | exact dx_eqS rfl rfl | exact dx_neS rfl rfl | exact dx_eqB rfl rfl | exact dx_neB rfl rfl | exact dx_eqP rfl rfl rfl rfl | exact dx_neP rfl rfl rfl rfl | exact dx_neg rfl (by omega) | exact dx_cutl rfl rfl (by omega) (by omega) (by assumption) | exact den_mk (r := [[I _]]) rfl rfl (by simp) | exact dx_sel rfl rfl (by omega) rfl | exact dx_mn rfl rfl | exact dx_slen rfl | exact dx_app1 (fun _ => rfl) rfl rfl (by first | omega | (simp only [List.length_append, List.length_cons, List.length_nil]; omega))) ?_ | refine den_ck (by exact dx_inr rfl rfl (by omega) (by omega)) ?_ | refine den_lets (by first | exact dx_el rfl rfl (by omega) (by first | assumption | exact hx) (by rfl) | exact dx_calls rfl (sp_unCheck_at _) (by rfl) | exact dx_calls rfl (sp_txCheck_at _) (by rfl) | exact denXs_cons (dx_idx rfl rfl (by omega) (by first | assumption | exact hx) rfl) (denXs_cons (dx_idx rfl rfl (by omega) (by first | assumption | exact hx) rfl) denXs_nil)) ?_ (by simp only [eCoin, eTx, eIn, eOut, eOp, ePoint, eInt, eStr, eBlock, eTree, eBook, eUndo, eBool, List.cons_append, List.nil_append]; try exact rfl) | exact den_ret rfl rfl | refine den_ifR rfl (by with_reducible rfl) (fun h => ?_) (fun h => ?_) | refine den_ifB rfl (by with_reducible rfl) (fun h => ?_) (fun h => ?_) | refine den_ifC rfl (by with_reducible rfl) (fun h => ?_) (fun h => ?_) | refine den_ifBn rfl (by with_reducible rfl) (fun h => ?_) (fun h => ?_) | refine den_ifF rfl (by with_reducible rfl) (fun h => ?_) (fun h => ?_) | refine den_ifFn rfl (by with_reducible rfl) (fun h => ?_) (fun h => ?_) | refine den_ifAndOr rfl (by with_reducible rfl) (fun h => ?_) (fun h => ?_) | refine den_ifOrAnd rfl (by with_reducible rfl) (fun h => ?_) (fun h => ?_) | refine den_ifAnd rfl (by with_reducible rfl) (fun h => ?_) (fun h => ?_) | refine den_ifOr rfl (by with_reducible rfl) (fun h => ?_) (fun h => ?_) | refine den_band rfl (by with_reducible rfl) (fun h => ?_) (fun h => ?_) | refine den_bor rfl (by with_reducible rfl) (fun h => ?_) (fun h => ?_) | refine den_T rfl (by first | assumption | omega) ?_ | refine den_F rfl (by first | assumption | omega) ?_ | refine den_t rfl ?_ | refine den_f rfl ?_)
    all_goals
      have ok : CoinsOK l := (coinsCheck_iff l).1 (Decidable.not_not.1 (by assumption))
      have okt : TxOK t := txCheck_ok (Decidable.not_not.1 (by assumption))
      have hl := ok.len
      have hti := okt.ins
      have hto := okt.outs
      repeat' (first | refine den_let1 (by first | exact dx_eql rfl rfl | exact dx_neq rfl rfl | exact dx_lss rfl rfl | exact dx_gtr rfl rfl | exact dx_geq rfl rfl | exact dx_leq rfl rfl | exact dx_len rfl | exact den_add rfl rfl (by omega) | exact den_sub rfl rfl (by omega) | exact dx_idx rfl rfl (by omega) (by first | assumption | exact hx) rfl | exact den_call rfl (sp_unCopy_at _ ok.short) rfl | exact dx_not rfl | exact dx_len0 rfl | exact dx_eqS rfl rfl | exact dx_neS rfl rfl | exact dx_eqB rfl rfl | exact dx_neB rfl rfl | exact dx_eqP rfl rfl rfl rfl | exact dx_neP rfl rfl rfl rfl | exact dx_neg rfl (by omega) | exact dx_cutl rfl rfl (by omega) (by omega) (by assumption) | exact den_mk (r := [[I _]]) rfl rfl (by simp) | exact dx_sel rfl rfl (by omega) rfl | exact dx_mn rfl rfl | exact dx_slen rfl | exact dx_app1 (fun _ => rfl) rfl rfl (by first | omega | (simp only [List.length_append, List.length_cons, List.length_nil]; omega))) ?_ | refine den_ck (by exact dx_inr rfl rfl (by omega) (by omega)) ?_ | refine den_lets (by first | exact dx_el rfl rfl (by omega) (by first | assumption | exact hx) (by rfl) | exact dx_calls rfl (sp_unCopy_at _ ok.short) (by rfl) | exact denXs_cons (dx_idx rfl rfl (by omega) (by first | assumption | exact hx) rfl) (denXs_cons (dx_idx rfl rfl (by omega) (by first | assumption | exact hx) rfl) denXs_nil)) ?_ (by simp only [eCoin, eTx, eIn, eOut, eOp, ePoint, eInt, eStr, eBlock, eTree, eBook, eUndo, eBool, List.cons_append, List.nil_append]; try exact rfl) | exact den_ret rfl rfl | refine den_ifR rfl (by with_reducible rfl) (fun h => ?_) (fun h => ?_) | refine den_ifB rfl (by with_reducible rfl) (fun h => ?_) (fun h => ?_) | refine den_ifC rfl (by with_reducible rfl) (fun h => ?_) (fun h => ?_) | refine den_ifBn rfl (by with_reducible rfl) (fun h => ?_) (fun h => ?_) | refine den_ifF rfl (by with_reducible rfl) (fun h => ?_) (fun h => ?_) | refine den_ifFn rfl (by with_reducible rfl) (fun h => ?_) (fun h => ?_) | refine den_ifAndOr rfl (by with_reducible rfl) (fun h => ?_) (fun h => ?_) | refine den_ifOrAnd rfl (by with_reducible rfl) (fun h => ?_) (fun h => ?_) | refine den_ifAnd rfl (by with_reducible rfl) (fun h => ?_) (fun h => ?_) | refine den_ifOr rfl (by with_reducible rfl) (fun h => ?_) (fun h => ?_) | refine den_band rfl (by with_reducible rfl) (fun h => ?_) (fun h => ?_) | refine den_bor rfl (by with_reducible rfl) (fun h => ?_) (fun h => ?_) | refine den_T rfl (by first | assumption | omega) ?_ | refine den_F rfl (by first | assumption | omega) ?_ | refine den_t rfl ?_ | refine den_f rfl ?_)
    · (refine den_range (fun (st : List Coin × List Coin) k => [.l 6 (([] : List Coin).map eCoin), I 0, .l 6 (st.2.map eCoin), .l 6 (st.1.map eCoin), I k]) (fun (st : List Coin × List Coin) _ (xs : List In) => spendK ht bad3 (fun r s => bringK nm ht (decide ((t.ins.length : Int) = 0)) bad3 (endA s) r 0 t.outs) st.1 st.2 xs) (fun st k => SpI l st k) (l, []) t.ins ?_ ?_ ?_ ?_ ?_; rfl; exact ⟨ok.sorted, Nat.le_refl _, ok.good, rfl, fun c hc => by cases hc⟩; omega)
      · rintro ⟨r, s⟩ k x xs hx hd hk hI again hag
        rename_i h0 _
        omega
      · rintro ⟨r, s⟩ hI again
        rw [spendK]
        repeat' (first | refine den_let1 (by first | exact dx_eql rfl rfl | exact dx_neq rfl rfl | exact dx_lss rfl rfl | exact dx_gtr rfl rfl | exact dx_geq rfl rfl | exact dx_leq rfl rfl | exact dx_len rfl | exact den_add rfl rfl (by omega) | exact den_sub rfl rfl (by omega) | exact dx_idx rfl rfl (by omega) (by first | assumption | exact hx) rfl | exact dx_not rfl | exact dx_len0 rfl | exact dx_eqS rfl rfl | exact dx_neS rfl rfl | exact dx_eqB rfl rfl | exact dx_neB rfl rfl | exact dx_eqP rfl rfl rfl rfl | exact dx_neP rfl rfl rfl rfl | exact dx_neg rfl (by omega) | exact dx_cutl rfl rfl (by omega) (by omega) (by assumption) | exact den_mk (r := [[I _]]) rfl rfl (by simp) | exact dx_sel rfl rfl (by omega) rfl | exact dx_mn rfl rfl | exact dx_slen rfl | exact dx_app1 (fun _ => rfl) rfl rfl (by first | omega | (simp only [List.length_append, List.length_cons, List.length_nil]; omega))) ?_ | refine den_ck (by exact dx_inr rfl rfl (by omega) (by omega)) ?_ | refine den_lets (by first | exact dx_el rfl rfl (by omega) (by first | assumption | exact hx) (by rfl) | exact denXs_cons (dx_idx rfl rfl (by omega) (by first | assumption | exact hx) rfl) (denXs_cons (dx_idx rfl rfl (by omega) (by first | assumption | exact hx) rfl) denXs_nil)) ?_ (by simp only [eCoin, eTx, eIn, eOut, eOp, ePoint, eInt, eStr, eBlock, eTree, eBook, eUndo, eBool, List.cons_append, List.nil_append]; try exact rfl) | exact den_ret rfl rfl | refine den_ifR rfl (by with_reducible rfl) (fun h => ?_) (fun h => ?_) | refine den_ifB rfl (by with_reducible rfl) (fun h => ?_) (fun h => ?_) | refine den_ifC rfl (by with_reducible rfl) (fun h => ?_) (fun h => ?_) | refine den_ifBn rfl (by with_reducible rfl) (fun h => ?_) (fun h => ?_) | refine den_ifF rfl (by with_reducible rfl) (fun h => ?_) (fun h => ?_) | refine den_ifFn rfl (by with_reducible rfl) (fun h => ?_) (fun h => ?_) | refine den_ifAndOr rfl (by with_reducible rfl) (fun h => ?_) (fun h => ?_) | refine den_ifOrAnd rfl (by with_reducible rfl) (fun h => ?_) (fun h => ?_) | refine den_ifAnd rfl (by with_reducible rfl) (fun h => ?_) (fun h => ?_) | refine den_ifOr rfl (by with_reducible rfl) (fun h => ?_) (fun h => ?_) | refine den_band rfl (by with_reducible rfl) (fun h => ?_) (fun h => ?_) | refine den_bor rfl (by with_reducible rfl) (fun h => ?_) (fun h => ?_) | refine den_T rfl (by first | assumption | omega) ?_ | refine den_F rfl (by first | assumption | omega) ?_ | refine den_t rfl ?_ | refine den_f rfl ?_)
        (refine den_range (fun (r : List Coin) k => [.l 6 (([] : List Coin).map eCoin), I 0, .l 6 (r.map eCoin), I k]) (fun (r : List Coin) k (os : List Out) => bringK nm ht (decide ((t.ins.length : Int) = 0)) bad3 (endA s) r k os) (fun r k => SortedC r ∧ r.length ≤ l.length + k) r t.outs ?_ ?_ ?_ ?_ ?_; rfl; exact ⟨hI.sorted, hI.len⟩; omega)
        · rintro r k o os hx hd hk ⟨hs, hrl⟩ again' hag
          rw [bringK]
          have hol := opsCheck_len (okt.good o (List.mem_of_getElem? hx)).2.2
          have hpl := posOf_le r ⟨nm, k⟩
          have e1 : ((posOf r ⟨nm, k⟩ : Int)).toNat = posOf r ⟨nm, k⟩ := by omega
          repeat' (first | refine den_let1 (by first | exact dx_eql rfl rfl | exact dx_neq rfl rfl | exact dx_lss rfl rfl | exact dx_gtr rfl rfl | exact dx_geq rfl rfl | exact dx_leq rfl rfl | exact dx_len rfl | exact den_add rfl rfl (by omega) | exact den_sub rfl rfl (by omega) | exact dx_idx rfl rfl (by omega) (by first | assumption | exact hx) rfl | exact den_call rfl (sp_unFind0_at r ⟨nm, k⟩ hs (by omega)) rfl | exact den_call rfl (sp_clOp_at _ (by omega)) rfl | exact dx_not rfl | exact dx_len0 rfl | exact dx_eqS rfl rfl | exact dx_neS rfl rfl | exact dx_eqB rfl rfl | exact dx_neB rfl rfl | exact dx_eqP rfl rfl rfl rfl | exact dx_neP rfl rfl rfl rfl | exact dx_neg rfl (by omega) | exact dx_cutl rfl rfl (by omega) (by omega) (by assumption) | exact den_mk (r := [[I _]]) rfl rfl (by simp) | exact dx_sel rfl rfl (by omega) rfl | exact dx_mn rfl rfl | exact dx_slen rfl | exact dx_app1 (fun _ => rfl) rfl rfl (by first | omega | (simp only [List.length_append, List.length_cons, List.length_nil]; omega))) ?_ | refine den_ck (by exact dx_inr rfl rfl (by omega) (by omega)) ?_ | refine den_lets (by first | exact dx_el rfl rfl (by omega) (by first | assumption | exact hx) (by rfl) | exact dx_calls rfl (sp_unFind0_at r ⟨nm, k⟩ hs (by omega)) (by rfl) | exact dx_calls rfl (sp_clOp_at _ (by omega)) (by rfl) | exact denXs_cons (dx_idx rfl rfl (by omega) (by first | assumption | exact hx) rfl) (denXs_cons (dx_idx rfl rfl (by omega) (by first | assumption | exact hx) rfl) denXs_nil)) ?_ (by simp only [eCoin, eTx, eIn, eOut, eOp, ePoint, eInt, eStr, eBlock, eTree, eBook, eUndo, eBool, List.cons_append, List.nil_append]; try exact rfl) | exact den_ret rfl rfl | refine den_ifR rfl (by with_reducible rfl) (fun h => ?_) (fun h => ?_) | refine den_ifB rfl (by with_reducible rfl) (fun h => ?_) (fun h => ?_) | refine den_ifC rfl (by with_reducible rfl) (fun h => ?_) (fun h => ?_) | refine den_ifBn rfl (by with_reducible rfl) (fun h => ?_) (fun h => ?_) | refine den_ifF rfl (by with_reducible rfl) (fun h => ?_) (fun h => ?_) | refine den_ifFn rfl (by with_reducible rfl) (fun h => ?_) (fun h => ?_) | refine den_ifAndOr rfl (by with_reducible rfl) (fun h => ?_) (fun h => ?_) | refine den_ifOrAnd rfl (by with_reducible rfl) (fun h => ?_) (fun h => ?_) | refine den_ifAnd rfl (by with_reducible rfl) (fun h => ?_) (fun h => ?_) | refine den_ifOr rfl (by with_reducible rfl) (fun h => ?_) (fun h => ?_) | refine den_band rfl (by with_reducible rfl) (fun h => ?_) (fun h => ?_) | refine den_bor rfl (by with_reducible rfl) (fun h => ?_) (fun h => ?_) | refine den_T rfl (by first | assumption | omega) ?_ | refine den_F rfl (by first | assumption | omega) ?_ | refine den_t rfl ?_ | refine den_f rfl ?_)
          have hno := h
          refine den_let1 (den_mk (r := [(⟨⟨nm, k⟩, o, ht, decide ((t.ins.length : Int) = 0)⟩ : Coin)].map eCoin) rfl rfl (by simp)) ?_
          refine den_let1 (den_call rfl (sp_insCoin_at _ _ _ ⟨by omega, by omega, by omega⟩) rfl) ?_
          refine den_let1 (den_add rfl rfl (by omega)) ?_
          rw [e1]
          exact den_again rfl rfl (hag _ ⟨sorted_put hs (c := ⟨⟨nm, k⟩, o, ht, decide ((t.ins.length : Int) = 0)⟩) hno, by simp only [List.length_append, List.length_take, List.length_drop, List.length_singleton]; omega⟩)
        · rintro r hr again'
          rw [bringK]
          unfold endA
          repeat' (first | refine den_let1 (by first | exact dx_eql rfl rfl | exact dx_neq rfl rfl | exact dx_lss rfl rfl | exact dx_gtr rfl rfl | exact dx_geq rfl rfl | exact dx_leq rfl rfl | exact dx_len rfl | exact den_add rfl rfl (by omega) | exact den_sub rfl rfl (by omega) | exact dx_idx rfl rfl (by omega) (by first | assumption | exact hx) rfl | exact den_call rfl (sp_unCheck_at _) rfl | exact dx_not rfl | exact dx_len0 rfl | exact dx_eqS rfl rfl | exact dx_neS rfl rfl | exact dx_eqB rfl rfl | exact dx_neB rfl rfl | exact dx_eqP rfl rfl rfl rfl | exact dx_neP rfl rfl rfl rfl | exact dx_neg rfl (by omega) | exact dx_cutl rfl rfl (by omega) (by omega) (by assumption) | exact den_mk (r := [[I _]]) rfl rfl (by simp) | exact dx_sel rfl rfl (by omega) rfl | exact dx_mn rfl rfl | exact dx_slen rfl | exact dx_app1 (fun _ => rfl) rfl rfl (by first | omega | (simp only [List.length_append, List.length_cons, List.length_nil]; omega))) ?_ | refine den_ck (by exact dx_inr rfl rfl (by omega) (by omega)) ?_ | refine den_lets (by first | exact dx_el rfl rfl (by omega) (by first | assumption | exact hx) (by rfl) | exact dx_calls rfl (sp_unCheck_at _) (by rfl) | exact denXs_cons (dx_idx rfl rfl (by omega) (by first | assumption | exact hx) rfl) (denXs_cons (dx_idx rfl rfl (by omega) (by first | assumption | exact hx) rfl) denXs_nil)) ?_ (by simp only [eCoin, eTx, eIn, eOut, eOp, ePoint, eInt, eStr, eBlock, eTree, eBook, eUndo, eBool, List.cons_append, List.nil_append]; try exact rfl) | exact den_ret rfl rfl | refine den_ifR rfl (by with_reducible rfl) (fun h => ?_) (fun h => ?_) | refine den_ifB rfl (by with_reducible rfl) (fun h => ?_) (fun h => ?_) | refine den_ifC rfl (by with_reducible rfl) (fun h => ?_) (fun h => ?_) | refine den_ifBn rfl (by with_reducible rfl) (fun h => ?_) (fun h => ?_) | refine den_ifF rfl (by with_reducible rfl) (fun h => ?_) (fun h => ?_) | refine den_ifFn rfl (by with_reducible rfl) (fun h => ?_) (fun h => ?_) | refine den_ifAndOr rfl (by with_reducible rfl) (fun h => ?_) (fun h => ?_) | refine den_ifOrAnd rfl (by with_reducible rfl) (fun h => ?_) (fun h => ?_) | refine den_ifAnd rfl (by with_reducible rfl) (fun h => ?_) (fun h => ?_) | refine den_ifOr rfl (by with_reducible rfl) (fun h => ?_) (fun h => ?_) | refine den_band rfl (by with_reducible rfl) (fun h => ?_) (fun h => ?_) | refine den_bor rfl (by with_reducible rfl) (fun h => ?_) (fun h => ?_) | refine den_T rfl (by first | assumption | omega) ?_ | refine den_F rfl (by first | assumption | omega) ?_ | refine den_t rfl ?_ | refine den_f rfl ?_)
    · (refine den_range (fun (st : List Coin × List Coin) k => [.l 6 (([] : List Coin).map eCoin), I 0, .l 6 (st.2.map eCoin), .l 6 (st.1.map eCoin), I k]) (fun (st : List Coin × List Coin) _ (xs : List In) => spendK ht bad3 (fun r s => if feeOf t s < 0 then bad3 9 else bringK nm ht (decide ((t.ins.length : Int) = 0)) bad3 (endA s) r 0 t.outs) st.1 st.2 xs) (fun st k => SpI l st k) (l, []) t.ins ?_ ?_ ?_ ?_ ?_; rfl; exact ⟨ok.sorted, Nat.le_refl _, ok.good, rfl, fun c hc => by cases hc⟩; omega)
      · rintro ⟨r, s⟩ k x xs hx hd hk hI again hag
        rw [spendK]
        simp only
        have hs := hI.sorted
        have hrl := hI.len
        simp only at hs hrl
        repeat' (first | refine den_let1 (by first | exact dx_eql rfl rfl | exact dx_neq rfl rfl | exact dx_lss rfl rfl | exact dx_gtr rfl rfl | exact dx_geq rfl rfl | exact dx_leq rfl rfl | exact dx_len rfl | exact den_add rfl rfl (by omega) | exact den_sub rfl rfl (by omega) | exact dx_idx rfl rfl (by omega) (by first | assumption | exact hx) rfl | exact den_call rfl (sp_unFind0_at _ _ hs (by omega)) rfl | exact dx_not rfl | exact dx_len0 rfl | exact dx_eqS rfl rfl | exact dx_neS rfl rfl | exact dx_eqB rfl rfl | exact dx_neB rfl rfl | exact dx_eqP rfl rfl rfl rfl | exact dx_neP rfl rfl rfl rfl | exact dx_neg rfl (by omega) | exact dx_cutl rfl rfl (by omega) (by omega) (by assumption) | exact den_mk (r := [[I _]]) rfl rfl (by simp) | exact dx_sel rfl rfl (by omega) rfl | exact dx_mn rfl rfl | exact dx_slen rfl | exact dx_app1 (fun _ => rfl) rfl rfl (by first | omega | (simp only [List.length_append, List.length_cons, List.length_nil]; omega))) ?_ | refine den_ck (by exact dx_inr rfl rfl (by omega) (by omega)) ?_ | refine den_lets (by first | exact dx_el rfl rfl (by omega) (by first | assumption | exact hx) (by rfl) | exact dx_calls rfl (sp_unFind0_at _ _ hs (by omega)) (by rfl) | exact denXs_cons (dx_idx rfl rfl (by omega) (by first | assumption | exact hx) rfl) (denXs_cons (dx_idx rfl rfl (by omega) (by first | assumption | exact hx) rfl) denXs_nil)) ?_ (by simp only [eCoin, eTx, eIn, eOut, eOp, ePoint, eInt, eStr, eBlock, eTree, eBook, eUndo, eBool, List.cons_append, List.nil_append]; try exact rfl) | exact den_ret rfl rfl | refine den_ifR rfl (by with_reducible rfl) (fun h => ?_) (fun h => ?_) | refine den_ifB rfl (by with_reducible rfl) (fun h => ?_) (fun h => ?_) | refine den_ifC rfl (by with_reducible rfl) (fun h => ?_) (fun h => ?_) | refine den_ifBn rfl (by with_reducible rfl) (fun h => ?_) (fun h => ?_) | refine den_ifF rfl (by with_reducible rfl) (fun h => ?_) (fun h => ?_) | refine den_ifFn rfl (by with_reducible rfl) (fun h => ?_) (fun h => ?_) | refine den_ifAndOr rfl (by with_reducible rfl) (fun h => ?_) (fun h => ?_) | refine den_ifOrAnd rfl (by with_reducible rfl) (fun h => ?_) (fun h => ?_) | refine den_ifAnd rfl (by with_reducible rfl) (fun h => ?_) (fun h => ?_) | refine den_ifOr rfl (by with_reducible rfl) (fun h => ?_) (fun h => ?_) | refine den_band rfl (by with_reducible rfl) (fun h => ?_) (fun h => ?_) | refine den_bor rfl (by with_reducible rfl) (fun h => ?_) (fun h => ?_) | refine den_T rfl (by first | assumption | omega) ?_ | refine den_F rfl (by first | assumption | omega) ?_ | refine den_t rfl ?_ | refine den_f rfl ?_)
        obtain ⟨hlt, hp⟩ := (hasP_iff hs x.p).1 h
        have hc : r[posOf r x.p]? = some r[posOf r x.p] := List.getElem?_eq_getElem hlt
        rw [hc]
        generalize r[posOf r x.p] = c at *
        have hcb := coinBad_ok (hI.good c (List.mem_of_getElem? hc))
        have e1 : ((posOf r x.p : Int)).toNat = posOf r x.p := by omega
        have e2 : ((posOf r x.p : Int) + 1).toNat = posOf r x.p + 1 := by omega
        simp only [Option.getD_some]
        have hxo := hx
        have hx := hc
        repeat' (first | refine den_let1 (by first | exact dx_eql rfl rfl | exact dx_neq rfl rfl | exact dx_lss rfl rfl | exact dx_gtr rfl rfl | exact dx_geq rfl rfl | exact dx_leq rfl rfl | exact dx_len rfl | exact den_add rfl rfl (by omega) | exact den_sub rfl rfl (by omega) | exact dx_idx rfl rfl (by omega) (by first | assumption | exact hx) rfl | exact den_call rfl (sp_lockOpens_at _ _ _) rfl | exact dx_not rfl | exact dx_len0 rfl | exact dx_eqS rfl rfl | exact dx_neS rfl rfl | exact dx_eqB rfl rfl | exact dx_neB rfl rfl | exact dx_eqP rfl rfl rfl rfl | exact dx_neP rfl rfl rfl rfl | exact dx_neg rfl (by omega) | exact dx_cutl rfl rfl (by omega) (by omega) (by assumption) | exact den_mk (r := [[I _]]) rfl rfl (by simp) | exact dx_sel rfl rfl (by omega) rfl | exact dx_mn rfl rfl | exact dx_slen rfl | exact dx_app1 (fun _ => rfl) rfl rfl (by first | omega | (simp only [List.length_append, List.length_cons, List.length_nil]; omega))) ?_ | refine den_ck (by exact dx_inr rfl rfl (by omega) (by omega)) ?_ | refine den_lets (by first | exact dx_el rfl rfl (by omega) (by first | assumption | exact hx) (by rfl) | exact dx_calls rfl (sp_lockOpens_at _ _ _) (by rfl) | exact denXs_cons (dx_idx rfl rfl (by omega) (by first | assumption | exact hx) rfl) (denXs_cons (dx_idx rfl rfl (by omega) (by first | assumption | exact hx) rfl) denXs_nil)) ?_ (by simp only [eCoin, eTx, eIn, eOut, eOp, ePoint, eInt, eStr, eBlock, eTree, eBook, eUndo, eBool, List.cons_append, List.nil_append]; try exact rfl) | exact den_ret rfl rfl | refine den_ifR rfl (by with_reducible rfl) (fun h => ?_) (fun h => ?_) | refine den_ifB rfl (by with_reducible rfl) (fun h => ?_) (fun h => ?_) | refine den_ifC rfl (by with_reducible rfl) (fun h => ?_) (fun h => ?_) | refine den_ifBn rfl (by with_reducible rfl) (fun h => ?_) (fun h => ?_) | refine den_ifF rfl (by with_reducible rfl) (fun h => ?_) (fun h => ?_) | refine den_ifFn rfl (by with_reducible rfl) (fun h => ?_) (fun h => ?_) | refine den_ifAndOr rfl (by with_reducible rfl) (fun h => ?_) (fun h => ?_) | refine den_ifOrAnd rfl (by with_reducible rfl) (fun h => ?_) (fun h => ?_) | refine den_ifAnd rfl (by with_reducible rfl) (fun h => ?_) (fun h => ?_) | refine den_ifOr rfl (by with_reducible rfl) (fun h => ?_) (fun h => ?_) | refine den_band rfl (by with_reducible rfl) (fun h => ?_) (fun h => ?_) | refine den_bor rfl (by with_reducible rfl) (fun h => ?_) (fun h => ?_) | refine den_T rfl (by first | assumption | omega) ?_ | refine den_F rfl (by first | assumption | omega) ?_ | refine den_t rfl ?_ | refine den_f rfl ?_)
        all_goals (refine den_let1 (den_mk (r := [c].map eCoin) rfl rfl (by simp)) ?_; refine den_let1 (dx_app (l := s) (l' := [c]) rfl rfl (by have := hI.cnt; simp only at this ⊢; simp only [List.length_singleton]; omega)) ?_; refine den_let1 (den_add rfl rfl (by omega)) ?_; refine den_let1 (den_call rfl (sp_delCoin_at _ _ _ ⟨by omega, by omega, by omega⟩) rfl) ?_; refine den_let1 (den_add rfl rfl (by omega)) ?_; rw [e1, e2]; exact den_again rfl rfl (hag (r.take (posOf r x.p) ++ r.drop (posOf r x.p + 1), s ++ [c]) (hI.cut hc)))
      · rintro ⟨r, s⟩ hI again
        rw [spendK]
        repeat' (first | refine den_let1 (by first | exact dx_eql rfl rfl | exact dx_neq rfl rfl | exact dx_lss rfl rfl | exact dx_gtr rfl rfl | exact dx_geq rfl rfl | exact dx_leq rfl rfl | exact dx_len rfl | exact den_add rfl rfl (by omega) | exact den_sub rfl rfl (by omega) | exact dx_idx rfl rfl (by omega) (by first | assumption | exact hx) rfl | exact den_call rfl (sp_unFee_at t s (hI.fee okt)) rfl | exact dx_not rfl | exact dx_len0 rfl | exact dx_eqS rfl rfl | exact dx_neS rfl rfl | exact dx_eqB rfl rfl | exact dx_neB rfl rfl | exact dx_eqP rfl rfl rfl rfl | exact dx_neP rfl rfl rfl rfl | exact dx_neg rfl (by omega) | exact dx_cutl rfl rfl (by omega) (by omega) (by assumption) | exact den_mk (r := [[I _]]) rfl rfl (by simp) | exact dx_sel rfl rfl (by omega) rfl | exact dx_mn rfl rfl | exact dx_slen rfl | exact dx_app1 (fun _ => rfl) rfl rfl (by first | omega | (simp only [List.length_append, List.length_cons, List.length_nil]; omega))) ?_ | refine den_ck (by exact dx_inr rfl rfl (by omega) (by omega)) ?_ | refine den_lets (by first | exact dx_el rfl rfl (by omega) (by first | assumption | exact hx) (by rfl) | exact dx_calls rfl (sp_unFee_at t s (hI.fee okt)) (by rfl) | exact denXs_cons (dx_idx rfl rfl (by omega) (by first | assumption | exact hx) rfl) (denXs_cons (dx_idx rfl rfl (by omega) (by first | assumption | exact hx) rfl) denXs_nil)) ?_ (by simp only [eCoin, eTx, eIn, eOut, eOp, ePoint, eInt, eStr, eBlock, eTree, eBook, eUndo, eBool, List.cons_append, List.nil_append]; try exact rfl) | exact den_ret rfl rfl | refine den_ifR rfl (by with_reducible rfl) (fun h => ?_) (fun h => ?_) | refine den_ifB rfl (by with_reducible rfl) (fun h => ?_) (fun h => ?_) | refine den_ifC rfl (by with_reducible rfl) (fun h => ?_) (fun h => ?_) | refine den_ifBn rfl (by with_reducible rfl) (fun h => ?_) (fun h => ?_) | refine den_ifF rfl (by with_reducible rfl) (fun h => ?_) (fun h => ?_) | refine den_ifFn rfl (by with_reducible rfl) (fun h => ?_) (fun h => ?_) | refine den_ifAndOr rfl (by with_reducible rfl) (fun h => ?_) (fun h => ?_) | refine den_ifOrAnd rfl (by with_reducible rfl) (fun h => ?_) (fun h => ?_) | refine den_ifAnd rfl (by with_reducible rfl) (fun h => ?_) (fun h => ?_) | refine den_ifOr rfl (by with_reducible rfl) (fun h => ?_) (fun h => ?_) | refine den_band rfl (by with_reducible rfl) (fun h => ?_) (fun h => ?_) | refine den_bor rfl (by with_reducible rfl) (fun h => ?_) (fun h => ?_) | refine den_T rfl (by first | assumption | omega) ?_ | refine den_F rfl (by first | assumption | omega) ?_ | refine den_t rfl ?_ | refine den_f rfl ?_)
        (refine den_range (fun (r : List Coin) k => [.l 6 (([] : List Coin).map eCoin), I 0, .l 6 (r.map eCoin), I k]) (fun (r : List Coin) k (os : List Out) => bringK nm ht (decide ((t.ins.length : Int) = 0)) bad3 (endA s) r k os) (fun r k => SortedC r ∧ r.length ≤ l.length + k) r t.outs ?_ ?_ ?_ ?_ ?_; rfl; exact ⟨hI.sorted, hI.len⟩; omega)
        · rintro r k o os hx hd hk ⟨hs, hrl⟩ again' hag
          rw [bringK]
          have hol := opsCheck_len (okt.good o (List.mem_of_getElem? hx)).2.2
          have hpl := posOf_le r ⟨nm, k⟩
          have e1 : ((posOf r ⟨nm, k⟩ : Int)).toNat = posOf r ⟨nm, k⟩ := by omega
          repeat' (first | refine den_let1 (by first | exact dx_eql rfl rfl | exact dx_neq rfl rfl | exact dx_lss rfl rfl | exact dx_gtr rfl rfl | exact dx_geq rfl rfl | exact dx_leq rfl rfl | exact dx_len rfl | exact den_add rfl rfl (by omega) | exact den_sub rfl rfl (by omega) | exact dx_idx rfl rfl (by omega) (by first | assumption | exact hx) rfl | exact den_call rfl (sp_unFind0_at r ⟨nm, k⟩ hs (by omega)) rfl | exact den_call rfl (sp_clOp_at _ (by omega)) rfl | exact dx_not rfl | exact dx_len0 rfl | exact dx_eqS rfl rfl | exact dx_neS rfl rfl | exact dx_eqB rfl rfl | exact dx_neB rfl rfl | exact dx_eqP rfl rfl rfl rfl | exact dx_neP rfl rfl rfl rfl | exact dx_neg rfl (by omega) | exact dx_cutl rfl rfl (by omega) (by omega) (by assumption) | exact den_mk (r := [[I _]]) rfl rfl (by simp) | exact dx_sel rfl rfl (by omega) rfl | exact dx_mn rfl rfl | exact dx_slen rfl | exact dx_app1 (fun _ => rfl) rfl rfl (by first | omega | (simp only [List.length_append, List.length_cons, List.length_nil]; omega))) ?_ | refine den_ck (by exact dx_inr rfl rfl (by omega) (by omega)) ?_ | refine den_lets (by first | exact dx_el rfl rfl (by omega) (by first | assumption | exact hx) (by rfl) | exact dx_calls rfl (sp_unFind0_at r ⟨nm, k⟩ hs (by omega)) (by rfl) | exact dx_calls rfl (sp_clOp_at _ (by omega)) (by rfl) | exact denXs_cons (dx_idx rfl rfl (by omega) (by first | assumption | exact hx) rfl) (denXs_cons (dx_idx rfl rfl (by omega) (by first | assumption | exact hx) rfl) denXs_nil)) ?_ (by simp only [eCoin, eTx, eIn, eOut, eOp, ePoint, eInt, eStr, eBlock, eTree, eBook, eUndo, eBool, List.cons_append, List.nil_append]; try exact rfl) | exact den_ret rfl rfl | refine den_ifR rfl (by with_reducible rfl) (fun h => ?_) (fun h => ?_) | refine den_ifB rfl (by with_reducible rfl) (fun h => ?_) (fun h => ?_) | refine den_ifC rfl (by with_reducible rfl) (fun h => ?_) (fun h => ?_) | refine den_ifBn rfl (by with_reducible rfl) (fun h => ?_) (fun h => ?_) | refine den_ifF rfl (by with_reducible rfl) (fun h => ?_) (fun h => ?_) | refine den_ifFn rfl (by with_reducible rfl) (fun h => ?_) (fun h => ?_) | refine den_ifAndOr rfl (by with_reducible rfl) (fun h => ?_) (fun h => ?_) | refine den_ifOrAnd rfl (by with_reducible rfl) (fun h => ?_) (fun h => ?_) | refine den_ifAnd rfl (by with_reducible rfl) (fun h => ?_) (fun h => ?_) | refine den_ifOr rfl (by with_reducible rfl) (fun h => ?_) (fun h => ?_) | refine den_band rfl (by with_reducible rfl) (fun h => ?_) (fun h => ?_) | refine den_bor rfl (by with_reducible rfl) (fun h => ?_) (fun h => ?_) | refine den_T rfl (by first | assumption | omega) ?_ | refine den_F rfl (by first | assumption | omega) ?_ | refine den_t rfl ?_ | refine den_f rfl ?_)
          have hno := h
          refine den_let1 (den_mk (r := [(⟨⟨nm, k⟩, o, ht, decide ((t.ins.length : Int) = 0)⟩ : Coin)].map eCoin) rfl rfl (by simp)) ?_
          refine den_let1 (den_call rfl (sp_insCoin_at _ _ _ ⟨by omega, by omega, by omega⟩) rfl) ?_
          refine den_let1 (den_add rfl rfl (by omega)) ?_
          rw [e1]
          exact den_again rfl rfl (hag _ ⟨sorted_put hs (c := ⟨⟨nm, k⟩, o, ht, decide ((t.ins.length : Int) = 0)⟩) hno, by simp only [List.length_append, List.length_take, List.length_drop, List.length_singleton]; omega⟩)
        · rintro r hr again'
          rw [bringK]
          unfold endA
          repeat' (first | refine den_let1 (by first | exact dx_eql rfl rfl | exact dx_neq rfl rfl | exact dx_lss rfl rfl | exact dx_gtr rfl rfl | exact dx_geq rfl rfl | exact dx_leq rfl rfl | exact dx_len rfl | exact den_add rfl rfl (by omega) | exact den_sub rfl rfl (by omega) | exact dx_idx rfl rfl (by omega) (by first | assumption | exact hx) rfl | exact den_call rfl (sp_unCheck_at _) rfl | exact dx_not rfl | exact dx_len0 rfl | exact dx_eqS rfl rfl | exact dx_neS rfl rfl | exact dx_eqB rfl rfl | exact dx_neB rfl rfl | exact dx_eqP rfl rfl rfl rfl | exact dx_neP rfl rfl rfl rfl | exact dx_neg rfl (by omega) | exact dx_cutl rfl rfl (by omega) (by omega) (by assumption) | exact den_mk (r := [[I _]]) rfl rfl (by simp) | exact dx_sel rfl rfl (by omega) rfl | exact dx_mn rfl rfl | exact dx_slen rfl | exact dx_app1 (fun _ => rfl) rfl rfl (by first | omega | (simp only [List.length_append, List.length_cons, List.length_nil]; omega))) ?_ | refine den_ck (by exact dx_inr rfl rfl (by omega) (by omega)) ?_ | refine den_lets (by first | exact dx_el rfl rfl (by omega) (by first | assumption | exact hx) (by rfl) | exact dx_calls rfl (sp_unCheck_at _) (by rfl) | exact denXs_cons (dx_idx rfl rfl (by omega) (by first | assumption | exact hx) rfl) (denXs_cons (dx_idx rfl rfl (by omega) (by first | assumption | exact hx) rfl) denXs_nil)) ?_ (by simp only [eCoin, eTx, eIn, eOut, eOp, ePoint, eInt, eStr, eBlock, eTree, eBook, eUndo, eBool, List.cons_append, List.nil_append]; try exact rfl) | exact den_ret rfl rfl | refine den_ifR rfl (by with_reducible rfl) (fun h => ?_) (fun h => ?_) | refine den_ifB rfl (by with_reducible rfl) (fun h => ?_) (fun h => ?_) | refine den_ifC rfl (by with_reducible rfl) (fun h => ?_) (fun h => ?_) | refine den_ifBn rfl (by with_reducible rfl) (fun h => ?_) (fun h => ?_) | refine den_ifF rfl (by with_reducible rfl) (fun h => ?_) (fun h => ?_) | refine den_ifFn rfl (by with_reducible rfl) (fun h => ?_) (fun h => ?_) | refine den_ifAndOr rfl (by with_reducible rfl) (fun h => ?_) (fun h => ?_) | refine den_ifOrAnd rfl (by with_reducible rfl) (fun h => ?_) (fun h => ?_) | refine den_ifAnd rfl (by with_reducible rfl) (fun h => ?_) (fun h => ?_) | refine den_ifOr rfl (by with_reducible rfl) (fun h => ?_) (fun h => ?_) | refine den_band rfl (by with_reducible rfl) (fun h => ?_) (fun h => ?_) | refine den_bor rfl (by with_reducible rfl) (fun h => ?_) (fun h => ?_) | refine den_T rfl (by first | assumption | omega) ?_ | refine den_F rfl (by first | assumption | omega) ?_ | refine den_t rfl ?_ | refine den_f rfl ?_)
end Go.Proofs.Ytnnbnjanekibpaa
