/- Own texts, put together by wip/bundle.py: VU4, VU9, VPU, VW1, VPB, VW2, VPO, VW3, VU5, VU6. -/
import Derived.Test.YtnnbnjanekibpaaUnOwnB
import Derived.Test.YtnnbnjanekibpaaUnOwnR
import Derived.Test.YtnnbnjanekibpaaUnOwnV2
import Derived.Test.YtnnbnjanekibpaaUnOwnZ2
namespace Go.Proofs.Ytnnbnjanekibpaa
open Go.RowKit
set_option linter.unusedVariables false
set_option linter.unusedSimpArgs false
set_option maxRecDepth 100000
set_option maxHeartbeats 4000000
theorem sp_eqOps_at (l m : List Op) : sp_eqOps [.l 2 (l.map eOp), .l 2 (m.map eOp)] = some [.b (decide (l = m))] := spD_at (f := fun x : List Op × List Op => decide (x.1 = x.2)) (l, m) trivial
theorem m_eqOps : Meets Try.prog sp_eqOps 65 ⟨[.one, .one], [(false, [.scal])], true⟩ :=
  meets_scal2 (e := fun x : { x : List Op × List Op // True } => Enc.e x.1) (d := fun x => .b (decide (x.1.1 = x.1.2))) rfl (en_of (fn := Try.f65) (by kernel_rfl) (by kernel_rfl) (by kernel_rfl)) (fun _ => rfl) fun x W F us hF h => by
    obtain ⟨v, us, rfl, h1, h⟩ := pks_one h
    obtain ⟨v2, us, rfl, h2, h⟩ := pks_one h
    obtain rfl := pks_nil h
    obtain ⟨A, n, c, rfl, k1⟩ := rep_rds she_op h1
    obtain ⟨A2, n2, c2, rfl, k2⟩ := rep_rds she_op h2
    refine (equal_op x.1.1 x.1.2 A A2 n c n2 c2 W F F k1 k2).mono ?_
    rintro r W' ⟨rfl, m, rfl⟩
    exact ⟨_, rfl, below_drewN (Below.refl _ _) m, .b _⟩
attribute [local irreducible] specOf spD ordP
theorem ok_l {α : Type} {sz : Nat} {l : List α} {f : α → List Dt} (h : Dt.ok (.l sz (l.map f))) : l.length ≤ 9223372036854775807 := by
  cases h with
  | l _ _ h1 _ _ => simpa using h1
theorem out_eq (x y : Out) : (decide (x.coin = y.coin) && decide (x.lock = y.lock)) = decide (x = y) := by
  cases x; cases y
  simp only [Out.mk.injEq, Bool.decide_and]
noncomputable def sp_txSameOut : Spec := spD (fun _ : Out × Out => True) fun x => decide (x.1 = x.2)
noncomputable def sp_rSameOut : Spec := spD (fun _ : Out × Out => True) fun x => decide (x.1 = x.2)
theorem sp_txSameOut_at (x y : Out) : sp_txSameOut [I x.coin, .l 2 (x.lock.map eOp), I y.coin, .l 2 (y.lock.map eOp)] = some [.b (decide (x = y))] := spD_at (f := fun x : Out × Out => decide (x.1 = x.2)) (x, y) trivial
theorem sp_rSameOut_at (x y : Out) : sp_rSameOut [I x.coin, .l 2 (x.lock.map eOp), I y.coin, .l 2 (y.lock.map eOp)] = some [.b (decide (x = y))] := spD_at (f := fun x : Out × Out => decide (x.1 = x.2)) (x, y) trivial
def t_txSameOut : T :=
  .lets [.bin .eql (.v 0) (.v 2)] [] (.ite (.v 4) (.lets [.call 22 [.v 1, .v 3] 0] [] (.ret [.v 5])) (.ret [.c (.b false)]))
def t_rSameOut : T :=
  .lets [.bin .eql (.v 0) (.v 2)] [] (.ite (.v 4) (.lets [.call 22 [.v 1, .v 3] 0] [] (.ret [.v 5])) (.ret [.c (.b false)]))
def t_unSame1_0 : T :=
  .ite (.v 13) (.lets [.bin .eql (.v 4) (.v 10)] [] (.ite (.v 14) (.lets [.beq false (.v 5) (.v 11)] [] (.ret [.v 15])) (.ret [.c (.b false)]))) (.ret [.c (.b false)])
def t_unSame1 : T :=
  .lets [.eqs false [(.v 0, .v 6), (.v 1, .v 7)]] [] (.ite (.v 12) (.lets [.call 23 [.v 2, .v 3, .v 8, .v 9] 0] [] t_unSame1_0) (.ret [.c (.b false)]))
def t_rSameCoins1_0 : T :=
  .ite (.v 13) (.lets [.bin .eql (.v 4) (.v 10)] [] (.ite (.v 14) (.lets [.beq false (.v 5) (.v 11)] [] (.ret [.v 15])) (.ret [.c (.b false)]))) (.ret [.c (.b false)])
def t_rSameCoins1 : T :=
  .lets [.eqs false [(.v 0, .v 6), (.v 1, .v 7)]] [] (.ite (.v 12) (.lets [.call 27 [.v 2, .v 3, .v 8, .v 9] 0] [] t_rSameCoins1_0) (.ret [.c (.b false)]))
def t_efCoinP_0 : T :=
  .lets [.call 33 [.v 9, .v 10, .v 11, .v 12, .v 13, .v 14, .v 15, .v 16, .v 17, .v 18, .v 19, .v 20] 0] [] (.lets [.not (.v 21)] [] (.ite (.v 22) (.ret [.c (.b false)]) (.lets [.bin
  .add (.v 7) (.c (.i .i64 1))] [] (.again 0 [.v 6, .v 23]))))
def t_efCoinP_1 : T :=
  .lets [] [.inr 6 (.v 1) (.v 7)] (.lets [.idx (.v 1) (.v 7) 0, .idx (.v 1) (.v 7) 1, .idx (.v 1) (.v 7) 2, .idx (.v 1) (.v 7) 3, .idx (.v 1) (.v 7) 4, .idx (.v 1) (.v 7) 5] []
  t_efCoinP_0)
def t_efCoinP_2 : T :=
  .lets [] [.inr 6 (.v 0) (.v 7)] (.lets [.idx (.v 0) (.v 7) 0, .idx (.v 0) (.v 7) 1, .idx (.v 0) (.v 7) 2, .idx (.v 0) (.v 7) 3, .idx (.v 0) (.v 7) 4, .idx (.v 0) (.v 7) 5] []
  t_efCoinP_1)
def t_efCoinP_3 : T :=
  .ite (.v 4) (.ret [.c (.b false)]) (.lets [.len (.v 0)] [] (.loop [.c (.b false), .c (.i .i64 0)] (.lets [.bin .lss (.v 7) (.v 5)] [] (.ite (.v 8) t_efCoinP_2 (.ret [.c (.b
  true)])))))
def t_efCoinP : T :=
  .lets [.len (.v 0)] [] (.lets [.len (.v 1)] [] (.lets [.bin .neq (.v 2) (.v 3)] [] t_efCoinP_3))
def t_efCoinR_0 : T :=
  .lets [.call 34 [.v 9, .v 10, .v 11, .v 12, .v 13, .v 14, .v 15, .v 16, .v 17, .v 18, .v 19, .v 20] 0] [] (.lets [.not (.v 21)] [] (.ite (.v 22) (.ret [.c (.b false)]) (.lets [.bin
  .add (.v 7) (.c (.i .i64 1))] [] (.again 0 [.v 6, .v 23]))))
def t_efCoinR_1 : T :=
  .lets [] [.inr 6 (.v 1) (.v 7)] (.lets [.idx (.v 1) (.v 7) 0, .idx (.v 1) (.v 7) 1, .idx (.v 1) (.v 7) 2, .idx (.v 1) (.v 7) 3, .idx (.v 1) (.v 7) 4, .idx (.v 1) (.v 7) 5] []
  t_efCoinR_0)
def t_efCoinR_2 : T :=
  .lets [] [.inr 6 (.v 0) (.v 7)] (.lets [.idx (.v 0) (.v 7) 0, .idx (.v 0) (.v 7) 1, .idx (.v 0) (.v 7) 2, .idx (.v 0) (.v 7) 3, .idx (.v 0) (.v 7) 4, .idx (.v 0) (.v 7) 5] []
  t_efCoinR_1)
def t_efCoinR_3 : T :=
  .ite (.v 4) (.ret [.c (.b false)]) (.lets [.len (.v 0)] [] (.loop [.c (.b false), .c (.i .i64 0)] (.lets [.bin .lss (.v 7) (.v 5)] [] (.ite (.v 8) t_efCoinR_2 (.ret [.c (.b
  true)])))))
def t_efCoinR : T :=
  .lets [.len (.v 0)] [] (.lets [.len (.v 1)] [] (.lets [.bin .neq (.v 2) (.v 3)] [] t_efCoinR_3))
def t_unSame : T :=
  .lets [.call 24 [.v 0, .v 1] 0] [] (.ret [.v 2])
def t_rSameCoins : T :=
  .lets [.call 25 [.v 0, .v 1] 0] [] (.ret [.v 2])
def t_rBefore : T :=
  .lets [.bin .lss (.v 0) (.v 2)] [] (.ite (.v 4) (.ret [.c (.b true)]) (.lets [.bin .eql (.v 0) (.v 2)] [] (.ite (.v 5) (.lets [.bin .lss (.v 1) (.v 3)] [] (.ret [.v 6])) (.ret [.c
  (.b false)]))))
theorem m_txSameOut : Meets Try.prog sp_txSameOut 100 ⟨[.agg 2, .agg 2], [(false, [.scal])], true⟩ := by
  refine meets_fast (sp := (spsOf [(22, sp_eqOps)])) (sigs := sigsA) (cut := []) (hints := []) (fn := Try.f100) (t := t_txSameOut) (by kernel_rfl) (by kernel_rfl) (by kernel_rfl) ?_ ?_
  · exact (sig_of (L := [(22, sp_eqOps)]) ⟨sig_at rfl m_eqOps, trivial⟩)
  · rintro ds rs - h
    obtain ⟨⟨x, y⟩, -, rfl, rfl⟩ := spD_some h
    clear h
    refine ⟨⟨1, ?_⟩, scalOk_1 rfl⟩
    show den _ _ t_txSameOut [I x.coin, .l 2 (x.lock.map eOp), I y.coin, .l 2 (y.lock.map eOp)] [] = ret (decide (x = y))
    rw [← out_eq]
    unfold t_txSameOut
    repeat' (first | refine den_let1 (by first | exact dx_eql rfl rfl | exact dx_neq rfl rfl | exact dx_lss rfl rfl | exact dx_gtr rfl rfl | exact dx_geq rfl rfl | exact dx_leq rfl rfl | exact dx_len rfl | exact den_add rfl rfl (by omega) | exact den_sub rfl rfl (by omega) | exact dx_idx rfl rfl (by omega) (by first | assumption | exact hx) rfl | exact den_call rfl (sp_eqOps_at _ _) rfl | exact dx_not rfl | exact dx_len0 rfl | exact dx_eqS rfl rfl | exact dx_neS rfl rfl | exact dx_eqB rfl rfl | exact dx_neB rfl rfl | exact dx_eqP rfl rfl rfl rfl | exact dx_neP rfl rfl rfl rfl | exact dx_neg rfl (by omega) | exact dx_cutl rfl rfl (by omega) (by omega) (by assumption) | exact den_mk (r := [[I _]]) rfl rfl (by simp) | exact dx_sel rfl rfl (by omega) rfl | exact dx_mn rfl rfl | exact dx_slen rfl | exact dx_app1 (fun _ => rfl) rfl rfl (by first | omega | (simp only [List.length_append, List.length_cons, List.length_nil]; omega))) ?_ | refine den_ck (by exact dx_inr rfl rfl (by omega) (by omega)) ?_ | refine den_lets (by first | exact dx_el rfl rfl (by omega) (by first | assumption | exact hx) (by rfl) | exact dx_calls rfl (sp_eqOps_at _ _) (by rfl) | exact denXs_cons (dx_idx rfl rfl (by omega) (by first | assumption | exact hx) rfl) (denXs_cons (dx_idx rfl rfl (by omega) (by first | assumption | exact hx) rfl) denXs_nil)) ?_ (by simp only [eCoin, eTx, eIn, eOut, eOp, ePoint, eInt, eStr, eBlock, eTree, eBook, eUndo, eBool, List.cons_append, List.nil_append]; try exact rfl) | exact den_ret rfl rfl | refine den_ifR rfl (by with_reducible rfl) (fun h => ?_) (fun h => ?_) | refine den_ifB rfl (by with_reducible rfl) (fun h => ?_) (fun h => ?_) | refine den_ifC rfl (by with_reducible rfl) (fun h => ?_) (fun h => ?_) | refine den_ifBn rfl (by with_reducible rfl) (fun h => ?_) (fun h => ?_) | refine den_ifF rfl (by with_reducible rfl) (fun h => ?_) (fun h => ?_) | refine den_ifFn rfl (by with_reducible rfl) (fun h => ?_) (fun h => ?_) | refine den_ifAndOr rfl (by with_reducible rfl) (fun h => ?_) (fun h => ?_) | refine den_ifOrAnd rfl (by with_reducible rfl) (fun h => ?_) (fun h => ?_) | refine den_ifAnd rfl (by with_reducible rfl) (fun h => ?_) (fun h => ?_) | refine den_ifOr rfl (by with_reducible rfl) (fun h => ?_) (fun h => ?_) | refine den_band rfl (by with_reducible rfl) (fun h => ?_) (fun h => ?_) | refine den_bor rfl (by with_reducible rfl) (fun h => ?_) (fun h => ?_) | refine den_T rfl (by first | assumption | omega) ?_ | refine den_F rfl (by first | assumption | omega) ?_ | refine den_t rfl ?_ | refine den_f rfl ?_)
theorem m_rSameOut : Meets Try.prog sp_rSameOut 104 ⟨[.agg 2, .agg 2], [(false, [.scal])], true⟩ := by
  refine meets_fast (sp := (spsOf [(22, sp_eqOps)])) (sigs := sigsA) (cut := []) (hints := []) (fn := Try.f104) (t := t_rSameOut) (by kernel_rfl) (by kernel_rfl) (by kernel_rfl) ?_ ?_
  · exact (sig_of (L := [(22, sp_eqOps)]) ⟨sig_at rfl m_eqOps, trivial⟩)
  · rintro ds rs - h
    obtain ⟨⟨x, y⟩, -, rfl, rfl⟩ := spD_some h
    clear h
    refine ⟨⟨1, ?_⟩, scalOk_1 rfl⟩
    show den _ _ t_rSameOut [I x.coin, .l 2 (x.lock.map eOp), I y.coin, .l 2 (y.lock.map eOp)] [] = ret (decide (x = y))
    rw [← out_eq]
    unfold t_rSameOut
    repeat' (first | refine den_let1 (by first | exact dx_eql rfl rfl | exact dx_neq rfl rfl | exact dx_lss rfl rfl | exact dx_gtr rfl rfl | exact dx_geq rfl rfl | exact dx_leq rfl rfl | exact dx_len rfl | exact den_add rfl rfl (by omega) | exact den_sub rfl rfl (by omega) | exact dx_idx rfl rfl (by omega) (by first | assumption | exact hx) rfl | exact den_call rfl (sp_eqOps_at _ _) rfl | exact dx_not rfl | exact dx_len0 rfl | exact dx_eqS rfl rfl | exact dx_neS rfl rfl | exact dx_eqB rfl rfl | exact dx_neB rfl rfl | exact dx_eqP rfl rfl rfl rfl | exact dx_neP rfl rfl rfl rfl | exact dx_neg rfl (by omega) | exact dx_cutl rfl rfl (by omega) (by omega) (by assumption) | exact den_mk (r := [[I _]]) rfl rfl (by simp) | exact dx_sel rfl rfl (by omega) rfl | exact dx_mn rfl rfl | exact dx_slen rfl | exact dx_app1 (fun _ => rfl) rfl rfl (by first | omega | (simp only [List.length_append, List.length_cons, List.length_nil]; omega))) ?_ | refine den_ck (by exact dx_inr rfl rfl (by omega) (by omega)) ?_ | refine den_lets (by first | exact dx_el rfl rfl (by omega) (by first | assumption | exact hx) (by rfl) | exact dx_calls rfl (sp_eqOps_at _ _) (by rfl) | exact denXs_cons (dx_idx rfl rfl (by omega) (by first | assumption | exact hx) rfl) (denXs_cons (dx_idx rfl rfl (by omega) (by first | assumption | exact hx) rfl) denXs_nil)) ?_ (by simp only [eCoin, eTx, eIn, eOut, eOp, ePoint, eInt, eStr, eBlock, eTree, eBook, eUndo, eBool, List.cons_append, List.nil_append]; try exact rfl) | exact den_ret rfl rfl | refine den_ifR rfl (by with_reducible rfl) (fun h => ?_) (fun h => ?_) | refine den_ifB rfl (by with_reducible rfl) (fun h => ?_) (fun h => ?_) | refine den_ifC rfl (by with_reducible rfl) (fun h => ?_) (fun h => ?_) | refine den_ifBn rfl (by with_reducible rfl) (fun h => ?_) (fun h => ?_) | refine den_ifF rfl (by with_reducible rfl) (fun h => ?_) (fun h => ?_) | refine den_ifFn rfl (by with_reducible rfl) (fun h => ?_) (fun h => ?_) | refine den_ifAndOr rfl (by with_reducible rfl) (fun h => ?_) (fun h => ?_) | refine den_ifOrAnd rfl (by with_reducible rfl) (fun h => ?_) (fun h => ?_) | refine den_ifAnd rfl (by with_reducible rfl) (fun h => ?_) (fun h => ?_) | refine den_ifOr rfl (by with_reducible rfl) (fun h => ?_) (fun h => ?_) | refine den_band rfl (by with_reducible rfl) (fun h => ?_) (fun h => ?_) | refine den_bor rfl (by with_reducible rfl) (fun h => ?_) (fun h => ?_) | refine den_T rfl (by first | assumption | omega) ?_ | refine den_F rfl (by first | assumption | omega) ?_ | refine den_t rfl ?_ | refine den_f rfl ?_)
theorem coin_eq (x y : Coin) : (decide (x.p = y.p) && (decide (x.o = y.o) && (decide (x.height = y.height) && decide (x.reward = y.reward)))) = decide (x = y) := by
  cases x; cases y
  simp only [Coin.mk.injEq, Bool.decide_and]
noncomputable def sp_unSame1 : Spec := spD (fun _ : Coin × Coin => True) fun x => decide (x.1 = x.2)
noncomputable def sp_rSameCoins1 : Spec := spD (fun _ : Coin × Coin => True) fun x => decide (x.1 = x.2)
theorem sp_unSame1_at (x y : Coin) : sp_unSame1 (eCoin x ++ eCoin y) = some [.b (decide (x = y))] := spD_at (f := fun x : Coin × Coin => decide (x.1 = x.2)) (x, y) trivial
theorem sp_rSameCoins1_at (x y : Coin) : sp_rSameCoins1 (eCoin x ++ eCoin y) = some [.b (decide (x = y))] := spD_at (f := fun x : Coin × Coin => decide (x.1 = x.2)) (x, y) trivial
theorem m_unSame1 : Meets Try.prog sp_unSame1 99 ⟨[.agg 6, .agg 6], [(false, [.scal])], true⟩ := by
  refine meets_fast (sp := (spsOf [(23, sp_txSameOut)])) (sigs := sigsA) (cut := []) (hints := []) (fn := Try.f99) (t := t_unSame1) (by kernel_rfl) (by kernel_rfl) (by kernel_rfl) ?_ ?_
  · exact (sig_of (L := [(23, sp_txSameOut)]) ⟨sig_at rfl m_txSameOut, trivial⟩)
  · rintro ds rs - h
    obtain ⟨⟨x, y⟩, -, rfl, rfl⟩ := spD_some h
    clear h
    refine ⟨⟨1, ?_⟩, scalOk_1 rfl⟩
    show den _ _ t_unSame1 [I x.p.tx, I x.p.at_, I x.o.coin, .l 2 (x.o.lock.map eOp), I x.height, .b x.reward, I y.p.tx, I y.p.at_, I y.o.coin, .l 2 (y.o.lock.map eOp), I y.height, .b y.reward] [] = ret (decide (x = y))
    rw [← coin_eq]
    unfold t_unSame1
    repeat' (first | refine den_let1 (by first | exact dx_eql rfl rfl | exact dx_neq rfl rfl | exact dx_lss rfl rfl | exact dx_gtr rfl rfl | exact dx_geq rfl rfl | exact dx_leq rfl rfl | exact dx_len rfl | exact den_add rfl rfl (by omega) | exact den_sub rfl rfl (by omega) | exact dx_idx rfl rfl (by omega) (by first | assumption | exact hx) rfl | exact den_call rfl (sp_txSameOut_at x.o y.o) rfl | exact dx_not rfl | exact dx_len0 rfl | exact dx_eqS rfl rfl | exact dx_neS rfl rfl | exact dx_eqB rfl rfl | exact dx_neB rfl rfl | exact dx_eqP rfl rfl rfl rfl | exact dx_neP rfl rfl rfl rfl | exact dx_neg rfl (by omega) | exact dx_cutl rfl rfl (by omega) (by omega) (by assumption) | exact den_mk (r := [[I _]]) rfl rfl (by simp) | exact dx_sel rfl rfl (by omega) rfl | exact dx_mn rfl rfl | exact dx_slen rfl | exact dx_app1 (fun _ => rfl) rfl rfl (by first | omega | (simp only [List.length_append, List.length_cons, List.length_nil]; omega))) ?_ | refine den_ck (by exact dx_inr rfl rfl (by omega) (by omega)) ?_ | refine den_lets (by first | exact dx_el rfl rfl (by omega) (by first | assumption | exact hx) (by rfl) | exact dx_calls rfl (sp_txSameOut_at x.o y.o) (by rfl) | exact denXs_cons (dx_idx rfl rfl (by omega) (by first | assumption | exact hx) rfl) (denXs_cons (dx_idx rfl rfl (by omega) (by first | assumption | exact hx) rfl) denXs_nil)) ?_ (by simp only [eCoin, eTx, eIn, eOut, eOp, ePoint, eInt, eStr, eBlock, eTree, eBook, eUndo, eBool, List.cons_append, List.nil_append]; try exact rfl) | exact den_ret rfl rfl | refine den_ifR rfl (by with_reducible rfl) (fun h => ?_) (fun h => ?_) | refine den_ifB rfl (by with_reducible rfl) (fun h => ?_) (fun h => ?_) | refine den_ifC rfl (by with_reducible rfl) (fun h => ?_) (fun h => ?_) | refine den_ifBn rfl (by with_reducible rfl) (fun h => ?_) (fun h => ?_) | refine den_ifF rfl (by with_reducible rfl) (fun h => ?_) (fun h => ?_) | refine den_ifFn rfl (by with_reducible rfl) (fun h => ?_) (fun h => ?_) | refine den_ifAndOr rfl (by with_reducible rfl) (fun h => ?_) (fun h => ?_) | refine den_ifOrAnd rfl (by with_reducible rfl) (fun h => ?_) (fun h => ?_) | refine den_ifAnd rfl (by with_reducible rfl) (fun h => ?_) (fun h => ?_) | refine den_ifOr rfl (by with_reducible rfl) (fun h => ?_) (fun h => ?_) | refine den_band rfl (by with_reducible rfl) (fun h => ?_) (fun h => ?_) | refine den_bor rfl (by with_reducible rfl) (fun h => ?_) (fun h => ?_) | refine den_T rfl (by first | assumption | omega) ?_ | refine den_F rfl (by first | assumption | omega) ?_ | refine den_t rfl ?_ | refine den_f rfl ?_)
theorem m_rSameCoins1 : Meets Try.prog sp_rSameCoins1 103 ⟨[.agg 6, .agg 6], [(false, [.scal])], true⟩ := by
  refine meets_fast (sp := (spsOf [(27, sp_rSameOut)])) (sigs := sigsA) (cut := []) (hints := []) (fn := Try.f103) (t := t_rSameCoins1) (by kernel_rfl) (by kernel_rfl) (by kernel_rfl) ?_ ?_
  · exact (sig_of (L := [(27, sp_rSameOut)]) ⟨sig_at rfl m_rSameOut, trivial⟩)
  · rintro ds rs - h
    obtain ⟨⟨x, y⟩, -, rfl, rfl⟩ := spD_some h
    clear h
    refine ⟨⟨1, ?_⟩, scalOk_1 rfl⟩
    show den _ _ t_rSameCoins1 [I x.p.tx, I x.p.at_, I x.o.coin, .l 2 (x.o.lock.map eOp), I x.height, .b x.reward, I y.p.tx, I y.p.at_, I y.o.coin, .l 2 (y.o.lock.map eOp), I y.height, .b y.reward] [] = ret (decide (x = y))
    rw [← coin_eq]
    unfold t_rSameCoins1
    repeat' (first | refine den_let1 (by first | exact dx_eql rfl rfl | exact dx_neq rfl rfl | exact dx_lss rfl rfl | exact dx_gtr rfl rfl | exact dx_geq rfl rfl | exact dx_leq rfl rfl | exact dx_len rfl | exact den_add rfl rfl (by omega) | exact den_sub rfl rfl (by omega) | exact dx_idx rfl rfl (by omega) (by first | assumption | exact hx) rfl | exact den_call rfl (sp_rSameOut_at x.o y.o) rfl | exact dx_not rfl | exact dx_len0 rfl | exact dx_eqS rfl rfl | exact dx_neS rfl rfl | exact dx_eqB rfl rfl | exact dx_neB rfl rfl | exact dx_eqP rfl rfl rfl rfl | exact dx_neP rfl rfl rfl rfl | exact dx_neg rfl (by omega) | exact dx_cutl rfl rfl (by omega) (by omega) (by assumption) | exact den_mk (r := [[I _]]) rfl rfl (by simp) | exact dx_sel rfl rfl (by omega) rfl | exact dx_mn rfl rfl | exact dx_slen rfl | exact dx_app1 (fun _ => rfl) rfl rfl (by first | omega | (simp only [List.length_append, List.length_cons, List.length_nil]; omega))) ?_ | refine den_ck (by exact dx_inr rfl rfl (by omega) (by omega)) ?_ | refine den_lets (by first | exact dx_el rfl rfl (by omega) (by first | assumption | exact hx) (by rfl) | exact dx_calls rfl (sp_rSameOut_at x.o y.o) (by rfl) | exact denXs_cons (dx_idx rfl rfl (by omega) (by first | assumption | exact hx) rfl) (denXs_cons (dx_idx rfl rfl (by omega) (by first | assumption | exact hx) rfl) denXs_nil)) ?_ (by simp only [eCoin, eTx, eIn, eOut, eOp, ePoint, eInt, eStr, eBlock, eTree, eBook, eUndo, eBool, List.cons_append, List.nil_append]; try exact rfl) | exact den_ret rfl rfl | refine den_ifR rfl (by with_reducible rfl) (fun h => ?_) (fun h => ?_) | refine den_ifB rfl (by with_reducible rfl) (fun h => ?_) (fun h => ?_) | refine den_ifC rfl (by with_reducible rfl) (fun h => ?_) (fun h => ?_) | refine den_ifBn rfl (by with_reducible rfl) (fun h => ?_) (fun h => ?_) | refine den_ifF rfl (by with_reducible rfl) (fun h => ?_) (fun h => ?_) | refine den_ifFn rfl (by with_reducible rfl) (fun h => ?_) (fun h => ?_) | refine den_ifAndOr rfl (by with_reducible rfl) (fun h => ?_) (fun h => ?_) | refine den_ifOrAnd rfl (by with_reducible rfl) (fun h => ?_) (fun h => ?_) | refine den_ifAnd rfl (by with_reducible rfl) (fun h => ?_) (fun h => ?_) | refine den_ifOr rfl (by with_reducible rfl) (fun h => ?_) (fun h => ?_) | refine den_band rfl (by with_reducible rfl) (fun h => ?_) (fun h => ?_) | refine den_bor rfl (by with_reducible rfl) (fun h => ?_) (fun h => ?_) | refine den_T rfl (by first | assumption | omega) ?_ | refine den_F rfl (by first | assumption | omega) ?_ | refine den_t rfl ?_ | refine den_f rfl ?_)
noncomputable def sp_efCoinP : Spec := spD (fun _ : List Coin × List Coin => True) fun x => decide (x.1 = x.2)
noncomputable def sp_efCoinR : Spec := spD (fun _ : List Coin × List Coin => True) fun x => decide (x.1 = x.2)
noncomputable def sp_unSame : Spec := spD (fun _ : List Coin × List Coin => True) fun x => decide (x.1 = x.2)
noncomputable def sp_rSameCoins : Spec := spD (fun _ : List Coin × List Coin => True) fun x => decide (x.1 = x.2)
theorem sp_efCoinP_at (l m : List Coin) : sp_efCoinP [.l 6 (l.map eCoin), .l 6 (m.map eCoin)] = some [.b (decide (l = m))] := spD_at (f := fun x : List Coin × List Coin => decide (x.1 = x.2)) (l, m) trivial
theorem sp_efCoinR_at (l m : List Coin) : sp_efCoinR [.l 6 (l.map eCoin), .l 6 (m.map eCoin)] = some [.b (decide (l = m))] := spD_at (f := fun x : List Coin × List Coin => decide (x.1 = x.2)) (l, m) trivial
theorem sp_unSame_at (l m : List Coin) : sp_unSame [.l 6 (l.map eCoin), .l 6 (m.map eCoin)] = some [.b (decide (l = m))] := spD_at (f := fun x : List Coin × List Coin => decide (x.1 = x.2)) (l, m) trivial
theorem sp_rSameCoins_at (l m : List Coin) : sp_rSameCoins [.l 6 (l.map eCoin), .l 6 (m.map eCoin)] = some [.b (decide (l = m))] := spD_at (f := fun x : List Coin × List Coin => decide (x.1 = x.2)) (l, m) trivial
theorem eq_by_len {α : Type} [DecidableEq α] (l m : List α) : decide (l = m) = if (l.length : Int) ≠ m.length then false else decide (l = m) := by
  by_cases h : (l.length : Int) ≠ m.length
  · rw [if_pos h, decide_eq_false]
    rintro rfl
    exact h rfl
  · rw [if_neg h]
theorem m_efCoinP : Meets Try.prog sp_efCoinP 98 ⟨[.one, .one, .clos 99 []], [(false, [.scal])], true⟩ := by
  refine meets_fast (sp := (spsOf [(33, sp_unSame1)])) (sigs := sigsA) (cut := []) (hints := [⟨4, [.t 6, .t 17]⟩]) (fn := Try.f98) (t := t_efCoinP) (by kernel_rfl) (by kernel_rfl) (by kernel_rfl) ?_ ?_
  · exact (sig_of (L := [(33, sp_unSame1)]) ⟨sig_at rfl m_unSame1, trivial⟩)
  · rintro ds rs hok h
    obtain ⟨⟨l, m⟩, -, rfl, rfl⟩ := spD_some h
    clear h
    have hll := ok_l (hok (.l 6 (l.map eCoin)) (List.mem_cons_self ..))
    refine ⟨⟨l.length + 1, ?_⟩, scalOk_1 rfl⟩
    show den _ _ t_efCoinP [.l 6 (l.map eCoin), .l 6 (m.map eCoin)] [] = ret (decide (l = m))
    rw [eq_by_len]
    unfold t_efCoinP
    repeat' (first | refine den_let1 (by first | exact dx_eql rfl rfl | exact dx_neq rfl rfl | exact dx_lss rfl rfl | exact dx_gtr rfl rfl | exact dx_geq rfl rfl | exact dx_leq rfl rfl | exact dx_len rfl | exact den_add rfl rfl (by omega) | exact den_sub rfl rfl (by omega) | exact dx_idx rfl rfl (by omega) (by first | assumption | exact hx) rfl | exact dx_not rfl | exact dx_len0 rfl | exact dx_eqS rfl rfl | exact dx_neS rfl rfl | exact dx_eqB rfl rfl | exact dx_neB rfl rfl | exact dx_eqP rfl rfl rfl rfl | exact dx_neP rfl rfl rfl rfl | exact dx_neg rfl (by omega) | exact dx_cutl rfl rfl (by omega) (by omega) (by assumption) | exact den_mk (r := [[I _]]) rfl rfl (by simp) | exact dx_sel rfl rfl (by omega) rfl | exact dx_mn rfl rfl | exact dx_slen rfl | exact dx_app1 (fun _ => rfl) rfl rfl (by first | omega | (simp only [List.length_append, List.length_cons, List.length_nil]; omega))) ?_ | refine den_ck (by exact dx_inr rfl rfl (by omega) (by omega)) ?_ | refine den_lets (by first | exact dx_el rfl rfl (by omega) (by first | assumption | exact hx) (by rfl) | exact denXs_cons (dx_idx rfl rfl (by omega) (by first | assumption | exact hx) rfl) (denXs_cons (dx_idx rfl rfl (by omega) (by first | assumption | exact hx) rfl) denXs_nil)) ?_ (by simp only [eCoin, eTx, eIn, eOut, eOp, ePoint, eInt, eStr, eBlock, eTree, eBook, eUndo, eBool, List.cons_append, List.nil_append]; try exact rfl) | exact den_ret rfl rfl | refine den_ifR rfl (by with_reducible rfl) (fun h => ?_) (fun h => ?_) | refine den_ifB rfl (by with_reducible rfl) (fun h => ?_) (fun h => ?_) | refine den_ifC rfl (by with_reducible rfl) (fun h => ?_) (fun h => ?_) | refine den_ifBn rfl (by with_reducible rfl) (fun h => ?_) (fun h => ?_) | refine den_ifF rfl (by with_reducible rfl) (fun h => ?_) (fun h => ?_) | refine den_ifFn rfl (by with_reducible rfl) (fun h => ?_) (fun h => ?_) | refine den_ifAndOr rfl (by with_reducible rfl) (fun h => ?_) (fun h => ?_) | refine den_ifOrAnd rfl (by with_reducible rfl) (fun h => ?_) (fun h => ?_) | refine den_ifAnd rfl (by with_reducible rfl) (fun h => ?_) (fun h => ?_) | refine den_ifOr rfl (by with_reducible rfl) (fun h => ?_) (fun h => ?_) | refine den_band rfl (by with_reducible rfl) (fun h => ?_) (fun h => ?_) | refine den_bor rfl (by with_reducible rfl) (fun h => ?_) (fun h => ?_) | refine den_T rfl (by first | assumption | omega) ?_ | refine den_F rfl (by first | assumption | omega) ?_ | refine den_t rfl ?_ | refine den_f rfl ?_)
    have hlm : l.length = m.length := by omega
    (refine den_range (fun (_ : Unit) k => [.b false, I k]) (fun (_ : Unit) k (r : List Coin) => decide (r = m.drop k)) (fun _ _ => True) () l ?_ ?_ ?_ ?_ ?_; rfl; exact trivial; first | exact Nat.lt_succ_self _ | omega)
    · rintro _ k x r hx hd hk - again hag
      have hy : m[k]? = some (m[k]'(by omega)) := List.getElem?_eq_getElem (by omega)
      have hdy : m.drop k = m[k]'(by omega) :: m.drop (k + 1) := List.drop_eq_getElem_cons (by omega)
      rw [hdy]
      generalize m[k]'(by omega) = y at *
      have e : decide (x :: r = y :: m.drop (k + 1)) = if decide (x = y) = true then decide (r = m.drop (k + 1)) else false := by
        by_cases h : x = y
        · simp [h]
        · simp [h]
      rw [e]
      have hkm : k < m.length := by omega
      repeat' (first | refine den_let1 (by first | exact dx_eql rfl rfl | exact dx_neq rfl rfl | exact dx_lss rfl rfl | exact dx_gtr rfl rfl | exact dx_geq rfl rfl | exact dx_leq rfl rfl | exact dx_len rfl | exact den_add rfl rfl (by omega) | exact den_sub rfl rfl (by omega) | exact dx_idx rfl rfl (by omega) (by first | assumption | exact hx) rfl | exact den_call rfl (sp_unSame1_at x y) rfl | exact dx_not rfl | exact dx_len0 rfl | exact dx_eqS rfl rfl | exact dx_neS rfl rfl | exact dx_eqB rfl rfl | exact dx_neB rfl rfl | exact dx_eqP rfl rfl rfl rfl | exact dx_neP rfl rfl rfl rfl | exact dx_neg rfl (by omega) | exact dx_cutl rfl rfl (by omega) (by omega) (by assumption) | exact den_mk (r := [[I _]]) rfl rfl (by simp) | exact dx_sel rfl rfl (by omega) rfl | exact dx_mn rfl rfl | exact dx_slen rfl | exact dx_app1 (fun _ => rfl) rfl rfl (by first | omega | (simp only [List.length_append, List.length_cons, List.length_nil]; omega))) ?_ | refine den_ck (by exact dx_inr rfl rfl (by omega) (by omega)) ?_ | refine den_lets (by first | exact dx_el rfl rfl (by omega) (by first | assumption | exact hx) (by rfl) | exact dx_calls rfl (sp_unSame1_at x y) (by rfl) | exact denXs_cons (dx_idx rfl rfl (by omega) (by first | assumption | exact hx) rfl) (denXs_cons (dx_idx rfl rfl (by omega) (by first | assumption | exact hx) rfl) denXs_nil)) ?_ (by simp only [eCoin, eTx, eIn, eOut, eOp, ePoint, eInt, eStr, eBlock, eTree, eBook, eUndo, eBool, List.cons_append, List.nil_append]; try exact rfl) | exact den_ret rfl rfl | exact den_again rfl rfl (hag () trivial) | exact den_again rfl rfl (hag _ trivial) | exact den_again rfl rfl (hag _ (by omega)) | exact den_again rfl rfl (hag _ (by assumption)) | refine den_ifR rfl (by with_reducible rfl) (fun h => ?_) (fun h => ?_) | refine den_ifB rfl (by with_reducible rfl) (fun h => ?_) (fun h => ?_) | refine den_ifC rfl (by with_reducible rfl) (fun h => ?_) (fun h => ?_) | refine den_ifBn rfl (by with_reducible rfl) (fun h => ?_) (fun h => ?_) | refine den_ifF rfl (by with_reducible rfl) (fun h => ?_) (fun h => ?_) | refine den_ifFn rfl (by with_reducible rfl) (fun h => ?_) (fun h => ?_) | refine den_ifAndOr rfl (by with_reducible rfl) (fun h => ?_) (fun h => ?_) | refine den_ifOrAnd rfl (by with_reducible rfl) (fun h => ?_) (fun h => ?_) | refine den_ifAnd rfl (by with_reducible rfl) (fun h => ?_) (fun h => ?_) | refine den_ifOr rfl (by with_reducible rfl) (fun h => ?_) (fun h => ?_) | refine den_band rfl (by with_reducible rfl) (fun h => ?_) (fun h => ?_) | refine den_bor rfl (by with_reducible rfl) (fun h => ?_) (fun h => ?_) | refine den_T rfl (by first | assumption | omega) ?_ | refine den_F rfl (by first | assumption | omega) ?_ | refine den_t rfl ?_ | refine den_f rfl ?_)
    · rintro _ - again
      rw [hlm, List.drop_length]
      repeat' (first | refine den_let1 (by first | exact dx_eql rfl rfl | exact dx_neq rfl rfl | exact dx_lss rfl rfl | exact dx_gtr rfl rfl | exact dx_geq rfl rfl | exact dx_leq rfl rfl | exact dx_len rfl | exact den_add rfl rfl (by omega) | exact den_sub rfl rfl (by omega) | exact dx_idx rfl rfl (by omega) (by first | assumption | exact hx) rfl | exact dx_not rfl | exact dx_len0 rfl | exact dx_eqS rfl rfl | exact dx_neS rfl rfl | exact dx_eqB rfl rfl | exact dx_neB rfl rfl | exact dx_eqP rfl rfl rfl rfl | exact dx_neP rfl rfl rfl rfl | exact dx_neg rfl (by omega) | exact dx_cutl rfl rfl (by omega) (by omega) (by assumption) | exact den_mk (r := [[I _]]) rfl rfl (by simp) | exact dx_sel rfl rfl (by omega) rfl | exact dx_mn rfl rfl | exact dx_slen rfl | exact dx_app1 (fun _ => rfl) rfl rfl (by first | omega | (simp only [List.length_append, List.length_cons, List.length_nil]; omega))) ?_ | refine den_ck (by exact dx_inr rfl rfl (by omega) (by omega)) ?_ | refine den_lets (by first | exact dx_el rfl rfl (by omega) (by first | assumption | exact hx) (by rfl) | exact denXs_cons (dx_idx rfl rfl (by omega) (by first | assumption | exact hx) rfl) (denXs_cons (dx_idx rfl rfl (by omega) (by first | assumption | exact hx) rfl) denXs_nil)) ?_ (by simp only [eCoin, eTx, eIn, eOut, eOp, ePoint, eInt, eStr, eBlock, eTree, eBook, eUndo, eBool, List.cons_append, List.nil_append]; try exact rfl) | exact den_ret rfl rfl | refine den_ifR rfl (by with_reducible rfl) (fun h => ?_) (fun h => ?_) | refine den_ifB rfl (by with_reducible rfl) (fun h => ?_) (fun h => ?_) | refine den_ifC rfl (by with_reducible rfl) (fun h => ?_) (fun h => ?_) | refine den_ifBn rfl (by with_reducible rfl) (fun h => ?_) (fun h => ?_) | refine den_ifF rfl (by with_reducible rfl) (fun h => ?_) (fun h => ?_) | refine den_ifFn rfl (by with_reducible rfl) (fun h => ?_) (fun h => ?_) | refine den_ifAndOr rfl (by with_reducible rfl) (fun h => ?_) (fun h => ?_) | refine den_ifOrAnd rfl (by with_reducible rfl) (fun h => ?_) (fun h => ?_) | refine den_ifAnd rfl (by with_reducible rfl) (fun h => ?_) (fun h => ?_) | refine den_ifOr rfl (by with_reducible rfl) (fun h => ?_) (fun h => ?_) | refine den_band rfl (by with_reducible rfl) (fun h => ?_) (fun h => ?_) | refine den_bor rfl (by with_reducible rfl) (fun h => ?_) (fun h => ?_) | refine den_T rfl (by first | assumption | omega) ?_ | refine den_F rfl (by first | assumption | omega) ?_ | refine den_t rfl ?_ | refine den_f rfl ?_)
theorem m_efCoinR : Meets Try.prog sp_efCoinR 98 ⟨[.one, .one, .clos 103 []], [(false, [.scal])], true⟩ := by
  refine meets_fast (sp := (spsOf [(34, sp_rSameCoins1)])) (sigs := sigsA) (cut := []) (hints := [⟨4, [.t 6, .t 17]⟩]) (fn := Try.f98) (t := t_efCoinR) (by kernel_rfl) (by kernel_rfl) (by kernel_rfl) ?_ ?_
  · exact (sig_of (L := [(34, sp_rSameCoins1)]) ⟨sig_at rfl m_rSameCoins1, trivial⟩)
  · rintro ds rs hok h
    obtain ⟨⟨l, m⟩, -, rfl, rfl⟩ := spD_some h
    clear h
    have hll := ok_l (hok (.l 6 (l.map eCoin)) (List.mem_cons_self ..))
    refine ⟨⟨l.length + 1, ?_⟩, scalOk_1 rfl⟩
    show den _ _ t_efCoinR [.l 6 (l.map eCoin), .l 6 (m.map eCoin)] [] = ret (decide (l = m))
    rw [eq_by_len]
    unfold t_efCoinR
    repeat' (first | refine den_let1 (by first | exact dx_eql rfl rfl | exact dx_neq rfl rfl | exact dx_lss rfl rfl | exact dx_gtr rfl rfl | exact dx_geq rfl rfl | exact dx_leq rfl rfl | exact dx_len rfl | exact den_add rfl rfl (by omega) | exact den_sub rfl rfl (by omega) | exact dx_idx rfl rfl (by omega) (by first | assumption | exact hx) rfl | exact dx_not rfl | exact dx_len0 rfl | exact dx_eqS rfl rfl | exact dx_neS rfl rfl | exact dx_eqB rfl rfl | exact dx_neB rfl rfl | exact dx_eqP rfl rfl rfl rfl | exact dx_neP rfl rfl rfl rfl | exact dx_neg rfl (by omega) | exact dx_cutl rfl rfl (by omega) (by omega) (by assumption) | exact den_mk (r := [[I _]]) rfl rfl (by simp) | exact dx_sel rfl rfl (by omega) rfl | exact dx_mn rfl rfl | exact dx_slen rfl | exact dx_app1 (fun _ => rfl) rfl rfl (by first | omega | (simp only [List.length_append, List.length_cons, List.length_nil]; omega))) ?_ | refine den_ck (by exact dx_inr rfl rfl (by omega) (by omega)) ?_ | refine den_lets (by first | exact dx_el rfl rfl (by omega) (by first | assumption | exact hx) (by rfl) | exact denXs_cons (dx_idx rfl rfl (by omega) (by first | assumption | exact hx) rfl) (denXs_cons (dx_idx rfl rfl (by omega) (by first | assumption | exact hx) rfl) denXs_nil)) ?_ (by simp only [eCoin, eTx, eIn, eOut, eOp, ePoint, eInt, eStr, eBlock, eTree, eBook, eUndo, eBool, List.cons_append, List.nil_append]; try exact rfl) | exact den_ret rfl rfl | refine den_ifR rfl (by with_reducible rfl) (fun h => ?_) (fun h => ?_) | refine den_ifB rfl (by with_reducible rfl) (fun h => ?_) (fun h => ?_) | refine den_ifC rfl (by with_reducible rfl) (fun h => ?_) (fun h => ?_) | refine den_ifBn rfl (by with_reducible rfl) (fun h => ?_) (fun h => ?_) | refine den_ifF rfl (by with_reducible rfl) (fun h => ?_) (fun h => ?_) | refine den_ifFn rfl (by with_reducible rfl) (fun h => ?_) (fun h => ?_) | refine den_ifAndOr rfl (by with_reducible rfl) (fun h => ?_) (fun h => ?_) | refine den_ifOrAnd rfl (by with_reducible rfl) (fun h => ?_) (fun h => ?_) | refine den_ifAnd rfl (by with_reducible rfl) (fun h => ?_) (fun h => ?_) | refine den_ifOr rfl (by with_reducible rfl) (fun h => ?_) (fun h => ?_) | refine den_band rfl (by with_reducible rfl) (fun h => ?_) (fun h => ?_) | refine den_bor rfl (by with_reducible rfl) (fun h => ?_) (fun h => ?_) | refine den_T rfl (by first | assumption | omega) ?_ | refine den_F rfl (by first | assumption | omega) ?_ | refine den_t rfl ?_ | refine den_f rfl ?_)
    have hlm : l.length = m.length := by omega
    (refine den_range (fun (_ : Unit) k => [.b false, I k]) (fun (_ : Unit) k (r : List Coin) => decide (r = m.drop k)) (fun _ _ => True) () l ?_ ?_ ?_ ?_ ?_; rfl; exact trivial; first | exact Nat.lt_succ_self _ | omega)
    · rintro _ k x r hx hd hk - again hag
      have hy : m[k]? = some (m[k]'(by omega)) := List.getElem?_eq_getElem (by omega)
      have hdy : m.drop k = m[k]'(by omega) :: m.drop (k + 1) := List.drop_eq_getElem_cons (by omega)
      rw [hdy]
      generalize m[k]'(by omega) = y at *
      have e : decide (x :: r = y :: m.drop (k + 1)) = if decide (x = y) = true then decide (r = m.drop (k + 1)) else false := by
        by_cases h : x = y
        · simp [h]
        · simp [h]
      rw [e]
      have hkm : k < m.length := by omega
      repeat' (first | refine den_let1 (by first | exact dx_eql rfl rfl | exact dx_neq rfl rfl | exact dx_lss rfl rfl | exact dx_gtr rfl rfl | exact dx_geq rfl rfl | exact dx_leq rfl rfl | exact dx_len rfl | exact den_add rfl rfl (by omega) | exact den_sub rfl rfl (by omega) | exact dx_idx rfl rfl (by omega) (by first | assumption | exact hx) rfl | exact den_call rfl (sp_rSameCoins1_at x y) rfl | exact dx_not rfl | exact dx_len0 rfl | exact dx_eqS rfl rfl | exact dx_neS rfl rfl | exact dx_eqB rfl rfl | exact dx_neB rfl rfl | exact dx_eqP rfl rfl rfl rfl | exact dx_neP rfl rfl rfl rfl | exact dx_neg rfl (by omega) | exact dx_cutl rfl rfl (by omega) (by omega) (by assumption) | exact den_mk (r := [[I _]]) rfl rfl (by simp) | exact dx_sel rfl rfl (by omega) rfl | exact dx_mn rfl rfl | exact dx_slen rfl | exact dx_app1 (fun _ => rfl) rfl rfl (by first | omega | (simp only [List.length_append, List.length_cons, List.length_nil]; omega))) ?_ | refine den_ck (by exact dx_inr rfl rfl (by omega) (by omega)) ?_ | refine den_lets (by first | exact dx_el rfl rfl (by omega) (by first | assumption | exact hx) (by rfl) | exact dx_calls rfl (sp_rSameCoins1_at x y) (by rfl) | exact denXs_cons (dx_idx rfl rfl (by omega) (by first | assumption | exact hx) rfl) (denXs_cons (dx_idx rfl rfl (by omega) (by first | assumption | exact hx) rfl) denXs_nil)) ?_ (by simp only [eCoin, eTx, eIn, eOut, eOp, ePoint, eInt, eStr, eBlock, eTree, eBook, eUndo, eBool, List.cons_append, List.nil_append]; try exact rfl) | exact den_ret rfl rfl | exact den_again rfl rfl (hag () trivial) | exact den_again rfl rfl (hag _ trivial) | exact den_again rfl rfl (hag _ (by omega)) | exact den_again rfl rfl (hag _ (by assumption)) | refine den_ifR rfl (by with_reducible rfl) (fun h => ?_) (fun h => ?_) | refine den_ifB rfl (by with_reducible rfl) (fun h => ?_) (fun h => ?_) | refine den_ifC rfl (by with_reducible rfl) (fun h => ?_) (fun h => ?_) | refine den_ifBn rfl (by with_reducible rfl) (fun h => ?_) (fun h => ?_) | refine den_ifF rfl (by with_reducible rfl) (fun h => ?_) (fun h => ?_) | refine den_ifFn rfl (by with_reducible rfl) (fun h => ?_) (fun h => ?_) | refine den_ifAndOr rfl (by with_reducible rfl) (fun h => ?_) (fun h => ?_) | refine den_ifOrAnd rfl (by with_reducible rfl) (fun h => ?_) (fun h => ?_) | refine den_ifAnd rfl (by with_reducible rfl) (fun h => ?_) (fun h => ?_) | refine den_ifOr rfl (by with_reducible rfl) (fun h => ?_) (fun h => ?_) | refine den_band rfl (by with_reducible rfl) (fun h => ?_) (fun h => ?_) | refine den_bor rfl (by with_reducible rfl) (fun h => ?_) (fun h => ?_) | refine den_T rfl (by first | assumption | omega) ?_ | refine den_F rfl (by first | assumption | omega) ?_ | refine den_t rfl ?_ | refine den_f rfl ?_)
    · rintro _ - again
      rw [hlm, List.drop_length]
      repeat' (first | refine den_let1 (by first | exact dx_eql rfl rfl | exact dx_neq rfl rfl | exact dx_lss rfl rfl | exact dx_gtr rfl rfl | exact dx_geq rfl rfl | exact dx_leq rfl rfl | exact dx_len rfl | exact den_add rfl rfl (by omega) | exact den_sub rfl rfl (by omega) | exact dx_idx rfl rfl (by omega) (by first | assumption | exact hx) rfl | exact dx_not rfl | exact dx_len0 rfl | exact dx_eqS rfl rfl | exact dx_neS rfl rfl | exact dx_eqB rfl rfl | exact dx_neB rfl rfl | exact dx_eqP rfl rfl rfl rfl | exact dx_neP rfl rfl rfl rfl | exact dx_neg rfl (by omega) | exact dx_cutl rfl rfl (by omega) (by omega) (by assumption) | exact den_mk (r := [[I _]]) rfl rfl (by simp) | exact dx_sel rfl rfl (by omega) rfl | exact dx_mn rfl rfl | exact dx_slen rfl | exact dx_app1 (fun _ => rfl) rfl rfl (by first | omega | (simp only [List.length_append, List.length_cons, List.length_nil]; omega))) ?_ | refine den_ck (by exact dx_inr rfl rfl (by omega) (by omega)) ?_ | refine den_lets (by first | exact dx_el rfl rfl (by omega) (by first | assumption | exact hx) (by rfl) | exact denXs_cons (dx_idx rfl rfl (by omega) (by first | assumption | exact hx) rfl) (denXs_cons (dx_idx rfl rfl (by omega) (by first | assumption | exact hx) rfl) denXs_nil)) ?_ (by simp only [eCoin, eTx, eIn, eOut, eOp, ePoint, eInt, eStr, eBlock, eTree, eBook, eUndo, eBool, List.cons_append, List.nil_append]; try exact rfl) | exact den_ret rfl rfl | refine den_ifR rfl (by with_reducible rfl) (fun h => ?_) (fun h => ?_) | refine den_ifB rfl (by with_reducible rfl) (fun h => ?_) (fun h => ?_) | refine den_ifC rfl (by with_reducible rfl) (fun h => ?_) (fun h => ?_) | refine den_ifBn rfl (by with_reducible rfl) (fun h => ?_) (fun h => ?_) | refine den_ifF rfl (by with_reducible rfl) (fun h => ?_) (fun h => ?_) | refine den_ifFn rfl (by with_reducible rfl) (fun h => ?_) (fun h => ?_) | refine den_ifAndOr rfl (by with_reducible rfl) (fun h => ?_) (fun h => ?_) | refine den_ifOrAnd rfl (by with_reducible rfl) (fun h => ?_) (fun h => ?_) | refine den_ifAnd rfl (by with_reducible rfl) (fun h => ?_) (fun h => ?_) | refine den_ifOr rfl (by with_reducible rfl) (fun h => ?_) (fun h => ?_) | refine den_band rfl (by with_reducible rfl) (fun h => ?_) (fun h => ?_) | refine den_bor rfl (by with_reducible rfl) (fun h => ?_) (fun h => ?_) | refine den_T rfl (by first | assumption | omega) ?_ | refine den_F rfl (by first | assumption | omega) ?_ | refine den_t rfl ?_ | refine den_f rfl ?_)
theorem m_unSame : Meets Try.prog sp_unSame 59 ⟨[.one, .one], [(false, [.scal])], true⟩ := by
  refine meets_fast (sp := (spsOf [(24, sp_efCoinP)])) (sigs := sigsA) (cut := []) (hints := []) (fn := Try.f59) (t := t_unSame) (by kernel_rfl) (by kernel_rfl) (by kernel_rfl) ?_ ?_
  · exact (sig_of (L := [(24, sp_efCoinP)]) ⟨sig_at rfl m_efCoinP, trivial⟩)
  · rintro ds rs - h
    obtain ⟨⟨l, m⟩, -, rfl, rfl⟩ := spD_some h
    clear h
    refine ⟨⟨1, ?_⟩, scalOk_1 rfl⟩
    show den _ _ t_unSame [.l 6 (l.map eCoin), .l 6 (m.map eCoin)] [] = ret (decide (l = m))
    unfold t_unSame
    repeat' (first | refine den_let1 (by first | exact dx_eql rfl rfl | exact dx_neq rfl rfl | exact dx_lss rfl rfl | exact dx_gtr rfl rfl | exact dx_geq rfl rfl | exact dx_leq rfl rfl | exact dx_len rfl | exact den_add rfl rfl (by omega) | exact den_sub rfl rfl (by omega) | exact dx_idx rfl rfl (by omega) (by first | assumption | exact hx) rfl | exact den_call rfl (sp_efCoinP_at l m) rfl | exact dx_not rfl | exact dx_len0 rfl | exact dx_eqS rfl rfl | exact dx_neS rfl rfl | exact dx_eqB rfl rfl | exact dx_neB rfl rfl | exact dx_eqP rfl rfl rfl rfl | exact dx_neP rfl rfl rfl rfl | exact dx_neg rfl (by omega) | exact dx_cutl rfl rfl (by omega) (by omega) (by assumption) | exact den_mk (r := [[I _]]) rfl rfl (by simp) | exact dx_sel rfl rfl (by omega) rfl | exact dx_mn rfl rfl | exact dx_slen rfl | exact dx_app1 (fun _ => rfl) rfl rfl (by first | omega | (simp only [List.length_append, List.length_cons, List.length_nil]; omega))) ?_ | refine den_ck (by exact dx_inr rfl rfl (by omega) (by omega)) ?_ | refine den_lets (by first | exact dx_el rfl rfl (by omega) (by first | assumption | exact hx) (by rfl) | exact dx_calls rfl (sp_efCoinP_at l m) (by rfl) | exact denXs_cons (dx_idx rfl rfl (by omega) (by first | assumption | exact hx) rfl) (denXs_cons (dx_idx rfl rfl (by omega) (by first | assumption | exact hx) rfl) denXs_nil)) ?_ (by simp only [eCoin, eTx, eIn, eOut, eOp, ePoint, eInt, eStr, eBlock, eTree, eBook, eUndo, eBool, List.cons_append, List.nil_append]; try exact rfl) | exact den_ret rfl rfl | refine den_ifR rfl (by with_reducible rfl) (fun h => ?_) (fun h => ?_) | refine den_ifB rfl (by with_reducible rfl) (fun h => ?_) (fun h => ?_) | refine den_ifC rfl (by with_reducible rfl) (fun h => ?_) (fun h => ?_) | refine den_ifBn rfl (by with_reducible rfl) (fun h => ?_) (fun h => ?_) | refine den_ifF rfl (by with_reducible rfl) (fun h => ?_) (fun h => ?_) | refine den_ifFn rfl (by with_reducible rfl) (fun h => ?_) (fun h => ?_) | refine den_ifAndOr rfl (by with_reducible rfl) (fun h => ?_) (fun h => ?_) | refine den_ifOrAnd rfl (by with_reducible rfl) (fun h => ?_) (fun h => ?_) | refine den_ifAnd rfl (by with_reducible rfl) (fun h => ?_) (fun h => ?_) | refine den_ifOr rfl (by with_reducible rfl) (fun h => ?_) (fun h => ?_) | refine den_band rfl (by with_reducible rfl) (fun h => ?_) (fun h => ?_) | refine den_bor rfl (by with_reducible rfl) (fun h => ?_) (fun h => ?_) | refine den_T rfl (by first | assumption | omega) ?_ | refine den_F rfl (by first | assumption | omega) ?_ | refine den_t rfl ?_ | refine den_f rfl ?_)
theorem m_rSameCoins : Meets Try.prog sp_rSameCoins 64 ⟨[.one, .one], [(false, [.scal])], true⟩ := by
  refine meets_fast (sp := (spsOf [(25, sp_efCoinR)])) (sigs := sigsA) (cut := []) (hints := []) (fn := Try.f64) (t := t_rSameCoins) (by kernel_rfl) (by kernel_rfl) (by kernel_rfl) ?_ ?_
  · exact (sig_of (L := [(25, sp_efCoinR)]) ⟨sig_at rfl m_efCoinR, trivial⟩)
  · rintro ds rs - h
    obtain ⟨⟨l, m⟩, -, rfl, rfl⟩ := spD_some h
    clear h
    refine ⟨⟨1, ?_⟩, scalOk_1 rfl⟩
    show den _ _ t_rSameCoins [.l 6 (l.map eCoin), .l 6 (m.map eCoin)] [] = ret (decide (l = m))
    unfold t_rSameCoins
    repeat' (first | refine den_let1 (by first | exact dx_eql rfl rfl | exact dx_neq rfl rfl | exact dx_lss rfl rfl | exact dx_gtr rfl rfl | exact dx_geq rfl rfl | exact dx_leq rfl rfl | exact dx_len rfl | exact den_add rfl rfl (by omega) | exact den_sub rfl rfl (by omega) | exact dx_idx rfl rfl (by omega) (by first | assumption | exact hx) rfl | exact den_call rfl (sp_efCoinR_at l m) rfl | exact dx_not rfl | exact dx_len0 rfl | exact dx_eqS rfl rfl | exact dx_neS rfl rfl | exact dx_eqB rfl rfl | exact dx_neB rfl rfl | exact dx_eqP rfl rfl rfl rfl | exact dx_neP rfl rfl rfl rfl | exact dx_neg rfl (by omega) | exact dx_cutl rfl rfl (by omega) (by omega) (by assumption) | exact den_mk (r := [[I _]]) rfl rfl (by simp) | exact dx_sel rfl rfl (by omega) rfl | exact dx_mn rfl rfl | exact dx_slen rfl | exact dx_app1 (fun _ => rfl) rfl rfl (by first | omega | (simp only [List.length_append, List.length_cons, List.length_nil]; omega))) ?_ | refine den_ck (by exact dx_inr rfl rfl (by omega) (by omega)) ?_ | refine den_lets (by first | exact dx_el rfl rfl (by omega) (by first | assumption | exact hx) (by rfl) | exact dx_calls rfl (sp_efCoinR_at l m) (by rfl) | exact denXs_cons (dx_idx rfl rfl (by omega) (by first | assumption | exact hx) rfl) (denXs_cons (dx_idx rfl rfl (by omega) (by first | assumption | exact hx) rfl) denXs_nil)) ?_ (by simp only [eCoin, eTx, eIn, eOut, eOp, ePoint, eInt, eStr, eBlock, eTree, eBook, eUndo, eBool, List.cons_append, List.nil_append]; try exact rfl) | exact den_ret rfl rfl | refine den_ifR rfl (by with_reducible rfl) (fun h => ?_) (fun h => ?_) | refine den_ifB rfl (by with_reducible rfl) (fun h => ?_) (fun h => ?_) | refine den_ifC rfl (by with_reducible rfl) (fun h => ?_) (fun h => ?_) | refine den_ifBn rfl (by with_reducible rfl) (fun h => ?_) (fun h => ?_) | refine den_ifF rfl (by with_reducible rfl) (fun h => ?_) (fun h => ?_) | refine den_ifFn rfl (by with_reducible rfl) (fun h => ?_) (fun h => ?_) | refine den_ifAndOr rfl (by with_reducible rfl) (fun h => ?_) (fun h => ?_) | refine den_ifOrAnd rfl (by with_reducible rfl) (fun h => ?_) (fun h => ?_) | refine den_ifAnd rfl (by with_reducible rfl) (fun h => ?_) (fun h => ?_) | refine den_ifOr rfl (by with_reducible rfl) (fun h => ?_) (fun h => ?_) | refine den_band rfl (by with_reducible rfl) (fun h => ?_) (fun h => ?_) | refine den_bor rfl (by with_reducible rfl) (fun h => ?_) (fun h => ?_) | refine den_T rfl (by first | assumption | omega) ?_ | refine den_F rfl (by first | assumption | omega) ?_ | refine den_t rfl ?_ | refine den_f rfl ?_)
end Go.Proofs.Ytnnbnjanekibpaa
namespace Go.Proofs.Ytnnbnjanekibpaa
open Go.RowKit
set_option linter.unusedVariables false
set_option linter.unusedSimpArgs false
set_option maxRecDepth 100000
set_option maxHeartbeats 4000000
attribute [local irreducible] specOf spD ordP coinsCheck txCheck opsCheck
noncomputable def sp_unRevert : Spec := spD (fun x : List Coin × Tx × Int × List Coin => LocksShort x.2.2.2) fun x => revertOf x.1 x.2.1 x.2.2.1 x.2.2.2
theorem sp_unRevert_at (l : List Coin) (t : Tx) (nm : Int) (u : List Coin) (h : LocksShort u) : sp_unRevert [.l 6 (l.map eCoin), I t.height, .l 3 (t.ins.map eIn), .l 2 (t.outs.map eOut), I nm, .l 6 (u.map eCoin)] = some [.l 6 ((revertOf l t nm u).1.map eCoin), I (revertOf l t nm u).2] := spD_at (p := fun x : List Coin × Tx × Int × List Coin => LocksShort x.2.2.2) (f := fun x : List Coin × Tx × Int × List Coin => revertOf x.1 x.2.1 x.2.2.1 x.2.2.2) (l, t, nm, u) h
def t_unRevert_0 : T :=
  .lets [.bin .add (.v 22) (.c (.i .i64 1))] [] (.lets [.call 14 [.v 17, .v 22, .v 29] 0] [] (.lets [.bin .add (.v 18) (.c (.i .i64 1))] [] (.again 0 [.v 15, .v 16, .v 30, .v 31])))
def t_unRevert_1 : T :=
  .lets [.idx (.v 17) (.v 22) 2, .idx (.v 17) (.v 22) 3] [] (.lets [.call 23 [.v 25, .v 26, .v 20, .v 21] 0] [] (.lets [.not (.v 27)] [] (.ite (.v 28) (.ret [.c (.nil 6), .c (.i .i64
  7)]) t_unRevert_0)))
def t_unRevert_2 : T :=
  .lets [.call 6 [.v 17, .v 4, .v 18] 0, .call 6 [.v 17, .v 4, .v 18] 1] [] (.lets [.not (.v 23)] [] (.ite (.v 24) (.ret [.c (.nil 6), .c (.i .i64 7)]) (.lets [] [.inr 6 (.v 17) (.v
  22)] t_unRevert_1)))
def t_unRevert_3 : T :=
  .lets [.mk 6 [[.v 27, .v 28, .v 29, .v 30, .v 31, .v 32]]] [] (.lets [.call 15 [.v 24, .v 33, .v 38] 0] [] (.lets [.bin .add (.v 25) (.c (.i .i64 1))] [] (.again 1 [.v 22, .v 23, .v
  39, .v 40])))
def t_unRevert_4 : T :=
  .lets [.idx (.v 2) (.v 25) 0, .idx (.v 2) (.v 25) 1] [] (.lets [.eqs true [(.v 35, .v 27), (.v 36, .v 28)]] [] (.ite (.v 37) (.ret [.c (.nil 6), .c (.i .i64 6)]) t_unRevert_3))
def t_unRevert_5 : T :=
  .lets [.call 6 [.v 24, .v 27, .v 28] 0, .call 6 [.v 24, .v 27, .v 28] 1] [] (.ite (.v 34) (.ret [.c (.nil 6), .c (.i .i64 6)]) (.lets [] [.inr 3 (.v 2) (.v 25)] t_unRevert_4))
def t_unRevert_6 : T :=
  .lets [.idx (.v 20) (.v 25) 0, .idx (.v 20) (.v 25) 1, .idx (.v 20) (.v 25) 2, .idx (.v 20) (.v 25) 3, .idx (.v 20) (.v 25) 4, .idx (.v 20) (.v 25) 5] [] t_unRevert_5
def t_unRevert_7 : T :=
  .ite (.v 26) (.lets [] [.inr 6 (.v 20) (.v 25)] t_unRevert_6) (.lets [.call 8 [.v 24] 0] [] (.lets [.bin .neq (.v 27) (.c (.i .i64 0))] [] (.ite (.v 28) (.ret [.c (.nil 6), .v 27])
  (.ret [.v 24, .c (.i .i64 0)]))))
def t_unRevert_8 : T :=
  .ite (.v 19) (.lets [] [.inr 2 (.v 3) (.v 18)] (.lets [.idx (.v 3) (.v 18) 0, .idx (.v 3) (.v 18) 1] [] t_unRevert_2)) (.lets [.call 11 [.v 5] 0] [] (.lets [.len (.v 20)] [] (.loop
  [.v 15, .v 16, .v 17, .c (.i .i64 0)] (.lets [.bin .lss (.v 25) (.v 21)] [] t_unRevert_7))))
def t_unRevert_9 : T :=
  .lets [.call 11 [.v 0] 0] [] (.lets [.len (.v 3)] [] (.loop [.c (.nil 6), .c (.i .i64 0), .v 13, .c (.i .i64 0)] (.lets [.bin .lss (.v 18) (.v 14)] [] t_unRevert_8)))
def t_unRevert_10 : T :=
  .ite (.v 9) (.ret [.c (.nil 6), .v 8]) (.lets [.len (.v 5)] [] (.lets [.len (.v 2)] [] (.lets [.bin .neq (.v 10) (.v 11)] [] (.ite (.v 12) (.ret [.c (.nil 6), .c (.i .i64 4)])
  t_unRevert_9))))
def t_unRevert_11 : T :=
  .lets [.bin .neq (.v 6) (.c (.i .i64 0))] [] (.ite (.v 7) (.ret [.c (.nil 6), .v 6]) (.lets [.call 17 [.v 1, .v 2, .v 3] 0] [] (.lets [.bin .neq (.v 8) (.c (.i .i64 0))] []
  t_unRevert_10)))
def t_unRevert : T :=
  .lets [.call 8 [.v 0] 0] [] t_unRevert_11
theorem m_unRevert : Meets Try.prog sp_unRevert 66 ⟨[.one, .agg 3, .one, .agg 1], [(false, [.pure]), (false, [.scal])], false⟩ := by
  refine meets_fast (sp := (spsOf [(6, sp_unFind0), (8, sp_unCheck), (11, sp_unCopy), (14, sp_delCoin), (15, sp_insCoin), (17, sp_txCheck), (23, sp_txSameOut)])) (sigs := sigsA) (cut := []) (hints := [⟨11, [.r 8 100 6, .t 9, .r 0 100 6, .t 43, .z 39]⟩, ⟨19, [.r 8 100 6, .t 9, .r 0 100 6, .t 78]⟩]) (fn := Try.f66) (t := t_unRevert) (by kernel_rfl) (by kernel_rfl) (by kernel_rfl) ?_ ?_
  · exact (sig_of (L := [(6, sp_unFind0), (8, sp_unCheck), (11, sp_unCopy), (14, sp_delCoin), (15, sp_insCoin), (17, sp_txCheck), (23, sp_txSameOut)]) ⟨sig_at rfl m_unFind0, sig_at rfl m_unCheck, sig_at rfl m_unCopy, sig_at rfl m_delCoin, sig_at rfl m_insCoin, sig_at rfl m_txCheck, sig_at rfl m_txSameOut, trivial⟩)
  · rintro ds rs - h
    obtain ⟨⟨l, t, nm, u⟩, hu, rfl, rfl⟩ := spD_some h
    clear h
    simp only at hu
    refine ⟨⟨u.length + t.outs.length + 1, ?_⟩, scalOk_ps⟩
    show den _ _ t_unRevert [.l 6 (l.map eCoin), I t.height, .l 3 (t.ins.map eIn), .l 2 (t.outs.map eOut), I nm, .l 6 (u.map eCoin)] [] = ret (revertOf l t nm u)
    unfold t_unRevert revertOf
    repeat' (first | refine den_let1 (by first | exact dx_eql rfl rfl | exact dx_neq rfl rfl | exact dx_lss rfl rfl | exact dx_gtr rfl rfl | exact dx_geq rfl rfl | exact dx_leq rfl rfl | exact dx_len rfl | exact den_add rfl rfl (by omega) | exact den_sub rfl rfl (by omega) | exact dx_idx rfl rfl (by omega) (by first | assumption | exact hx) rfl | exact den_call rfl (sp_unCheck_at _) rfl | exact den_call rfl (sp_txCheck_at _) rfl | exact dx_not rfl | exact dx_len0 rfl | exact dx_eqS rfl rfl | exact dx_neS rfl rfl | exact dx_eqB rfl rfl | exact dx_neB rfl rfl | exact dx_eqP rfl rfl rfl rfl | exact dx_neP rfl rfl rfl rfl | exact dx_neg rfl (by omega) | exact dx_cutl rfl rfl (by omega) (by omega) (by assumption) | exact den_mk (r := [[I _]]) rfl rfl (by simp) | exact dx_sel rfl rfl (by omega) rfl | exact dx_mn rfl rfl | exact dx_slen rfl | exact dx_app1 (fun _ => rfl) rfl rfl (by first | omega | (simp only [List.length_append, List.length_cons, List.length_nil]; omega))) ?_ | refine den_ck (by exact dx_inr rfl rfl (by omega) (by omega)) ?_ | refine den_lets (by first | exact dx_el rfl rfl (by omega) (by first | assumption | exact hx) (by rfl) | exact dx_calls rfl (sp_unCheck_at _) (by rfl) | exact dx_calls rfl (sp_txCheck_at _) (by rfl) | exact denXs_cons (dx_idx rfl rfl (by omega) (by first | assumption | exact hx) rfl) (denXs_cons (dx_idx rfl rfl (by omega) (by first | assumption | exact hx) rfl) denXs_nil)) ?_ (by simp only [eCoin, eTx, eIn, eOut, eOp, ePoint, eInt, eStr, eBlock, eTree, eBook, eUndo, eBool, List.cons_append, List.nil_append]; try exact rfl) | exact den_ret rfl rfl | refine den_ifR rfl (by with_reducible rfl) (fun h => ?_) (fun h => ?_) | refine den_ifB rfl (by with_reducible rfl) (fun h => ?_) (fun h => ?_) | refine den_ifC rfl (by with_reducible rfl) (fun h => ?_) (fun h => ?_) | refine den_ifBn rfl (by with_reducible rfl) (fun h => ?_) (fun h => ?_) | refine den_ifF rfl (by with_reducible rfl) (fun h => ?_) (fun h => ?_) | refine den_ifFn rfl (by with_reducible rfl) (fun h => ?_) (fun h => ?_) | refine den_ifAndOr rfl (by with_reducible rfl) (fun h => ?_) (fun h => ?_) | refine den_ifOrAnd rfl (by with_reducible rfl) (fun h => ?_) (fun h => ?_) | refine den_ifAnd rfl (by with_reducible rfl) (fun h => ?_) (fun h => ?_) | refine den_ifOr rfl (by with_reducible rfl) (fun h => ?_) (fun h => ?_) | refine den_band rfl (by with_reducible rfl) (fun h => ?_) (fun h => ?_) | refine den_bor rfl (by with_reducible rfl) (fun h => ?_) (fun h => ?_) | refine den_T rfl (by first | assumption | omega) ?_ | refine den_F rfl (by first | assumption | omega) ?_ | refine den_t rfl ?_ | refine den_f rfl ?_)
    have hul : u.length = t.ins.length := by omega
    have ok : CoinsOK l := (coinsCheck_iff l).1 (Decidable.not_not.1 (by assumption))
    have okt : TxOK t := txCheck_ok (Decidable.not_not.1 (by assumption))
    have hl := ok.len
    have hti := okt.ins
    have hto := okt.outs
    repeat' (first | refine den_let1 (by first | exact dx_eql rfl rfl | exact dx_neq rfl rfl | exact dx_lss rfl rfl | exact dx_gtr rfl rfl | exact dx_geq rfl rfl | exact dx_leq rfl rfl | exact dx_len rfl | exact den_add rfl rfl (by omega) | exact den_sub rfl rfl (by omega) | exact dx_idx rfl rfl (by omega) (by first | assumption | exact hx) rfl | exact den_call rfl (sp_unCopy_at _ ok.short) rfl | exact dx_not rfl | exact dx_len0 rfl | exact dx_eqS rfl rfl | exact dx_neS rfl rfl | exact dx_eqB rfl rfl | exact dx_neB rfl rfl | exact dx_eqP rfl rfl rfl rfl | exact dx_neP rfl rfl rfl rfl | exact dx_neg rfl (by omega) | exact dx_cutl rfl rfl (by omega) (by omega) (by assumption) | exact den_mk (r := [[I _]]) rfl rfl (by simp) | exact dx_sel rfl rfl (by omega) rfl | exact dx_mn rfl rfl | exact dx_slen rfl | exact dx_app1 (fun _ => rfl) rfl rfl (by first | omega | (simp only [List.length_append, List.length_cons, List.length_nil]; omega))) ?_ | refine den_ck (by exact dx_inr rfl rfl (by omega) (by omega)) ?_ | refine den_lets (by first | exact dx_el rfl rfl (by omega) (by first | assumption | exact hx) (by rfl) | exact dx_calls rfl (sp_unCopy_at _ ok.short) (by rfl) | exact denXs_cons (dx_idx rfl rfl (by omega) (by first | assumption | exact hx) rfl) (denXs_cons (dx_idx rfl rfl (by omega) (by first | assumption | exact hx) rfl) denXs_nil)) ?_ (by simp only [eCoin, eTx, eIn, eOut, eOp, ePoint, eInt, eStr, eBlock, eTree, eBook, eUndo, eBool, List.cons_append, List.nil_append]; try exact rfl) | exact den_ret rfl rfl | refine den_ifR rfl (by with_reducible rfl) (fun h => ?_) (fun h => ?_) | refine den_ifB rfl (by with_reducible rfl) (fun h => ?_) (fun h => ?_) | refine den_ifC rfl (by with_reducible rfl) (fun h => ?_) (fun h => ?_) | refine den_ifBn rfl (by with_reducible rfl) (fun h => ?_) (fun h => ?_) | refine den_ifF rfl (by with_reducible rfl) (fun h => ?_) (fun h => ?_) | refine den_ifFn rfl (by with_reducible rfl) (fun h => ?_) (fun h => ?_) | refine den_ifAndOr rfl (by with_reducible rfl) (fun h => ?_) (fun h => ?_) | refine den_ifOrAnd rfl (by with_reducible rfl) (fun h => ?_) (fun h => ?_) | refine den_ifAnd rfl (by with_reducible rfl) (fun h => ?_) (fun h => ?_) | refine den_ifOr rfl (by with_reducible rfl) (fun h => ?_) (fun h => ?_) | refine den_band rfl (by with_reducible rfl) (fun h => ?_) (fun h => ?_) | refine den_bor rfl (by with_reducible rfl) (fun h => ?_) (fun h => ?_) | refine den_T rfl (by first | assumption | omega) ?_ | refine den_F rfl (by first | assumption | omega) ?_ | refine den_t rfl ?_ | refine den_f rfl ?_)
    (refine den_range (fun (r : List Coin) k => [.l 6 (([] : List Coin).map eCoin), I 0, .l 6 (r.map eCoin), I k]) (fun (r : List Coin) k (os : List Out) => takeK nm bad2 (fun r => backK t.ins bad2 endR r 0 u) r k os) (fun r k => SortedC r ∧ r.length ≤ l.length) l t.outs ?_ ?_ ?_ ?_ ?_; rfl; exact ⟨ok.sorted, Nat.le_refl _⟩; omega)
    · rintro r k o os hx hd hk ⟨hs, hrl⟩ again hag
      rw [takeK]
      repeat' (first | refine den_let1 (by first | exact dx_eql rfl rfl | exact dx_neq rfl rfl | exact dx_lss rfl rfl | exact dx_gtr rfl rfl | exact dx_geq rfl rfl | exact dx_leq rfl rfl | exact dx_len rfl | exact den_add rfl rfl (by omega) | exact den_sub rfl rfl (by omega) | exact dx_idx rfl rfl (by omega) (by first | assumption | exact hx) rfl | exact den_call rfl (sp_unFind0_at r ⟨nm, k⟩ hs (by omega)) rfl | exact dx_not rfl | exact dx_len0 rfl | exact dx_eqS rfl rfl | exact dx_neS rfl rfl | exact dx_eqB rfl rfl | exact dx_neB rfl rfl | exact dx_eqP rfl rfl rfl rfl | exact dx_neP rfl rfl rfl rfl | exact dx_neg rfl (by omega) | exact dx_cutl rfl rfl (by omega) (by omega) (by assumption) | exact den_mk (r := [[I _]]) rfl rfl (by simp) | exact dx_sel rfl rfl (by omega) rfl | exact dx_mn rfl rfl | exact dx_slen rfl | exact dx_app1 (fun _ => rfl) rfl rfl (by first | omega | (simp only [List.length_append, List.length_cons, List.length_nil]; omega))) ?_ | refine den_ck (by exact dx_inr rfl rfl (by omega) (by omega)) ?_ | refine den_lets (by first | exact dx_el rfl rfl (by omega) (by first | assumption | exact hx) (by rfl) | exact dx_calls rfl (sp_unFind0_at r ⟨nm, k⟩ hs (by omega)) (by rfl) | exact denXs_cons (dx_idx rfl rfl (by omega) (by first | assumption | exact hx) rfl) (denXs_cons (dx_idx rfl rfl (by omega) (by first | assumption | exact hx) rfl) denXs_nil)) ?_ (by simp only [eCoin, eTx, eIn, eOut, eOp, ePoint, eInt, eStr, eBlock, eTree, eBook, eUndo, eBool, List.cons_append, List.nil_append]; try exact rfl) | exact den_ret rfl rfl | refine den_ifR rfl (by with_reducible rfl) (fun h => ?_) (fun h => ?_) | refine den_ifB rfl (by with_reducible rfl) (fun h => ?_) (fun h => ?_) | refine den_ifC rfl (by with_reducible rfl) (fun h => ?_) (fun h => ?_) | refine den_ifBn rfl (by with_reducible rfl) (fun h => ?_) (fun h => ?_) | refine den_ifF rfl (by with_reducible rfl) (fun h => ?_) (fun h => ?_) | refine den_ifFn rfl (by with_reducible rfl) (fun h => ?_) (fun h => ?_) | refine den_ifAndOr rfl (by with_reducible rfl) (fun h => ?_) (fun h => ?_) | refine den_ifOrAnd rfl (by with_reducible rfl) (fun h => ?_) (fun h => ?_) | refine den_ifAnd rfl (by with_reducible rfl) (fun h => ?_) (fun h => ?_) | refine den_ifOr rfl (by with_reducible rfl) (fun h => ?_) (fun h => ?_) | refine den_band rfl (by with_reducible rfl) (fun h => ?_) (fun h => ?_) | refine den_bor rfl (by with_reducible rfl) (fun h => ?_) (fun h => ?_) | refine den_T rfl (by first | assumption | omega) ?_ | refine den_F rfl (by first | assumption | omega) ?_ | refine den_t rfl ?_ | refine den_f rfl ?_)
      obtain ⟨hlt, hp⟩ := (hasP_iff hs ⟨nm, k⟩).1 h
      have hc : r[posOf r ⟨nm, k⟩]? = some r[posOf r ⟨nm, k⟩] := List.getElem?_eq_getElem hlt
      rw [hc]
      generalize r[posOf r ⟨nm, k⟩] = c at *
      have e1 : ((posOf r ⟨nm, k⟩ : Int)).toNat = posOf r ⟨nm, k⟩ := by omega
      have e2 : ((posOf r ⟨nm, k⟩ : Int) + 1).toNat = posOf r ⟨nm, k⟩ + 1 := by omega
      simp only [Option.getD_some]
      have hxo := hx
      have hx := hc
      repeat' (first | refine den_let1 (by first | exact dx_eql rfl rfl | exact dx_neq rfl rfl | exact dx_lss rfl rfl | exact dx_gtr rfl rfl | exact dx_geq rfl rfl | exact dx_leq rfl rfl | exact dx_len rfl | exact den_add rfl rfl (by omega) | exact den_sub rfl rfl (by omega) | exact dx_idx rfl rfl (by omega) (by first | assumption | exact hx) rfl | exact den_call rfl (sp_txSameOut_at c.o o) rfl | exact den_call rfl (sp_delCoin_at r (posOf r ⟨nm, k⟩ : Int) ((posOf r ⟨nm, k⟩ : Int) + 1) ⟨by omega, by omega, by omega⟩) rfl | exact dx_not rfl | exact dx_len0 rfl | exact dx_eqS rfl rfl | exact dx_neS rfl rfl | exact dx_eqB rfl rfl | exact dx_neB rfl rfl | exact dx_eqP rfl rfl rfl rfl | exact dx_neP rfl rfl rfl rfl | exact dx_neg rfl (by omega) | exact dx_cutl rfl rfl (by omega) (by omega) (by assumption) | exact den_mk (r := [[I _]]) rfl rfl (by simp) | exact dx_sel rfl rfl (by omega) rfl | exact dx_mn rfl rfl | exact dx_slen rfl | exact dx_app1 (fun _ => rfl) rfl rfl (by first | omega | (simp only [List.length_append, List.length_cons, List.length_nil]; omega))) ?_ | refine den_ck (by exact dx_inr rfl rfl (by omega) (by omega)) ?_ | refine den_lets (by first | exact dx_el rfl rfl (by omega) (by first | assumption | exact hx) (by rfl) | exact dx_calls rfl (sp_txSameOut_at c.o o) (by rfl) | exact dx_calls rfl (sp_delCoin_at r (posOf r ⟨nm, k⟩ : Int) ((posOf r ⟨nm, k⟩ : Int) + 1) ⟨by omega, by omega, by omega⟩) (by rfl) | exact denXs_cons (dx_idx rfl rfl (by omega) (by first | assumption | exact hx) rfl) (denXs_cons (dx_idx rfl rfl (by omega) (by first | assumption | exact hx) rfl) denXs_nil)) ?_ (by simp only [eCoin, eTx, eIn, eOut, eOp, ePoint, eInt, eStr, eBlock, eTree, eBook, eUndo, eBool, List.cons_append, List.nil_append]; try exact rfl) | exact den_ret rfl rfl | refine den_ifR rfl (by with_reducible rfl) (fun h => ?_) (fun h => ?_) | refine den_ifB rfl (by with_reducible rfl) (fun h => ?_) (fun h => ?_) | refine den_ifC rfl (by with_reducible rfl) (fun h => ?_) (fun h => ?_) | refine den_ifBn rfl (by with_reducible rfl) (fun h => ?_) (fun h => ?_) | refine den_ifF rfl (by with_reducible rfl) (fun h => ?_) (fun h => ?_) | refine den_ifFn rfl (by with_reducible rfl) (fun h => ?_) (fun h => ?_) | refine den_ifAndOr rfl (by with_reducible rfl) (fun h => ?_) (fun h => ?_) | refine den_ifOrAnd rfl (by with_reducible rfl) (fun h => ?_) (fun h => ?_) | refine den_ifAnd rfl (by with_reducible rfl) (fun h => ?_) (fun h => ?_) | refine den_ifOr rfl (by with_reducible rfl) (fun h => ?_) (fun h => ?_) | refine den_band rfl (by with_reducible rfl) (fun h => ?_) (fun h => ?_) | refine den_bor rfl (by with_reducible rfl) (fun h => ?_) (fun h => ?_) | refine den_T rfl (by first | assumption | omega) ?_ | refine den_F rfl (by first | assumption | omega) ?_ | refine den_t rfl ?_ | refine den_f rfl ?_)
      rw [e1, e2]
      exact den_again rfl rfl (hag _ ⟨sorted_cut hs _, by simp only [List.length_append, List.length_take, List.length_drop]; omega⟩)
    · rintro r ⟨hs, hrl⟩ again
      rw [takeK]
      repeat' (first | refine den_let1 (by first | exact dx_eql rfl rfl | exact dx_neq rfl rfl | exact dx_lss rfl rfl | exact dx_gtr rfl rfl | exact dx_geq rfl rfl | exact dx_leq rfl rfl | exact dx_len rfl | exact den_add rfl rfl (by omega) | exact den_sub rfl rfl (by omega) | exact dx_idx rfl rfl (by omega) (by first | assumption | exact hx) rfl | exact den_call rfl (sp_unCopy_at _ hu) rfl | exact dx_not rfl | exact dx_len0 rfl | exact dx_eqS rfl rfl | exact dx_neS rfl rfl | exact dx_eqB rfl rfl | exact dx_neB rfl rfl | exact dx_eqP rfl rfl rfl rfl | exact dx_neP rfl rfl rfl rfl | exact dx_neg rfl (by omega) | exact dx_cutl rfl rfl (by omega) (by omega) (by assumption) | exact den_mk (r := [[I _]]) rfl rfl (by simp) | exact dx_sel rfl rfl (by omega) rfl | exact dx_mn rfl rfl | exact dx_slen rfl | exact dx_app1 (fun _ => rfl) rfl rfl (by first | omega | (simp only [List.length_append, List.length_cons, List.length_nil]; omega))) ?_ | refine den_ck (by exact dx_inr rfl rfl (by omega) (by omega)) ?_ | refine den_lets (by first | exact dx_el rfl rfl (by omega) (by first | assumption | exact hx) (by rfl) | exact dx_calls rfl (sp_unCopy_at _ hu) (by rfl) | exact denXs_cons (dx_idx rfl rfl (by omega) (by first | assumption | exact hx) rfl) (denXs_cons (dx_idx rfl rfl (by omega) (by first | assumption | exact hx) rfl) denXs_nil)) ?_ (by simp only [eCoin, eTx, eIn, eOut, eOp, ePoint, eInt, eStr, eBlock, eTree, eBook, eUndo, eBool, List.cons_append, List.nil_append]; try exact rfl) | exact den_ret rfl rfl | refine den_ifR rfl (by with_reducible rfl) (fun h => ?_) (fun h => ?_) | refine den_ifB rfl (by with_reducible rfl) (fun h => ?_) (fun h => ?_) | refine den_ifC rfl (by with_reducible rfl) (fun h => ?_) (fun h => ?_) | refine den_ifBn rfl (by with_reducible rfl) (fun h => ?_) (fun h => ?_) | refine den_ifF rfl (by with_reducible rfl) (fun h => ?_) (fun h => ?_) | refine den_ifFn rfl (by with_reducible rfl) (fun h => ?_) (fun h => ?_) | refine den_ifAndOr rfl (by with_reducible rfl) (fun h => ?_) (fun h => ?_) | refine den_ifOrAnd rfl (by with_reducible rfl) (fun h => ?_) (fun h => ?_) | refine den_ifAnd rfl (by with_reducible rfl) (fun h => ?_) (fun h => ?_) | refine den_ifOr rfl (by with_reducible rfl) (fun h => ?_) (fun h => ?_) | refine den_band rfl (by with_reducible rfl) (fun h => ?_) (fun h => ?_) | refine den_bor rfl (by with_reducible rfl) (fun h => ?_) (fun h => ?_) | refine den_T rfl (by first | assumption | omega) ?_ | refine den_F rfl (by first | assumption | omega) ?_ | refine den_t rfl ?_ | refine den_f rfl ?_)
      (refine den_range (fun (r : List Coin) k => [.l 6 (([] : List Coin).map eCoin), I 0, .l 6 (r.map eCoin), I k]) (fun (r : List Coin) k (cs : List Coin) => backK t.ins bad2 endR r k cs) (fun r k => SortedC r ∧ r.length ≤ l.length + k) r u ?_ ?_ ?_ ?_ ?_; rfl; exact ⟨hs, hrl⟩; omega)
      · rintro r k c cs hx hd hk ⟨hs, hrl⟩ again' hag
        rw [backK]
        have hpl := posOf_le r c.p
        have e1 : ((posOf r c.p : Int)).toNat = posOf r c.p := by omega
        have hki : k < t.ins.length := by omega
        obtain ⟨x, hxi⟩ : ∃ x, t.ins[k]? = some x := ⟨_, List.getElem?_eq_getElem hki⟩
        rw [hxi]
        simp only [Option.getD_some]
        repeat' (first | refine den_let1 (by first | exact dx_eql rfl rfl | exact dx_neq rfl rfl | exact dx_lss rfl rfl | exact dx_gtr rfl rfl | exact dx_geq rfl rfl | exact dx_leq rfl rfl | exact dx_len rfl | exact den_add rfl rfl (by omega) | exact den_sub rfl rfl (by omega) | exact dx_idx rfl rfl (by omega) (by first | assumption | exact hx) rfl | exact den_call rfl (sp_unFind0_at r c.p hs (by omega)) rfl | exact dx_not rfl | exact dx_len0 rfl | exact dx_eqS rfl rfl | exact dx_neS rfl rfl | exact dx_eqB rfl rfl | exact dx_neB rfl rfl | exact dx_eqP rfl rfl rfl rfl | exact dx_neP rfl rfl rfl rfl | exact dx_neg rfl (by omega) | exact dx_cutl rfl rfl (by omega) (by omega) (by assumption) | exact den_mk (r := [[I _]]) rfl rfl (by simp) | exact dx_sel rfl rfl (by omega) rfl | exact dx_mn rfl rfl | exact dx_slen rfl | exact dx_app1 (fun _ => rfl) rfl rfl (by first | omega | (simp only [List.length_append, List.length_cons, List.length_nil]; omega))) ?_ | refine den_ck (by exact dx_inr rfl rfl (by omega) (by omega)) ?_ | refine den_lets (by first | exact dx_el rfl rfl (by omega) (by first | assumption | exact hx) (by rfl) | exact dx_calls rfl (sp_unFind0_at r c.p hs (by omega)) (by rfl) | exact denXs_cons (dx_idx rfl rfl (by omega) (by first | assumption | exact hx) rfl) (denXs_cons (dx_idx rfl rfl (by omega) (by first | assumption | exact hx) rfl) denXs_nil)) ?_ (by simp only [eCoin, eTx, eIn, eOut, eOp, ePoint, eInt, eStr, eBlock, eTree, eBook, eUndo, eBool, List.cons_append, List.nil_append]; try exact rfl) | exact den_ret rfl rfl | refine den_ifR rfl (by with_reducible rfl) (fun h => ?_) (fun h => ?_) | refine den_ifB rfl (by with_reducible rfl) (fun h => ?_) (fun h => ?_) | refine den_ifC rfl (by with_reducible rfl) (fun h => ?_) (fun h => ?_) | refine den_ifBn rfl (by with_reducible rfl) (fun h => ?_) (fun h => ?_) | refine den_ifF rfl (by with_reducible rfl) (fun h => ?_) (fun h => ?_) | refine den_ifFn rfl (by with_reducible rfl) (fun h => ?_) (fun h => ?_) | refine den_ifAndOr rfl (by with_reducible rfl) (fun h => ?_) (fun h => ?_) | refine den_ifOrAnd rfl (by with_reducible rfl) (fun h => ?_) (fun h => ?_) | refine den_ifAnd rfl (by with_reducible rfl) (fun h => ?_) (fun h => ?_) | refine den_ifOr rfl (by with_reducible rfl) (fun h => ?_) (fun h => ?_) | refine den_band rfl (by with_reducible rfl) (fun h => ?_) (fun h => ?_) | refine den_bor rfl (by with_reducible rfl) (fun h => ?_) (fun h => ?_) | refine den_T rfl (by first | assumption | omega) ?_ | refine den_F rfl (by first | assumption | omega) ?_ | refine den_t rfl ?_ | refine den_f rfl ?_)
        have hno := h
        have hxo := hx
        have hx := hxi
        repeat' (first | refine den_let1 (by first | exact dx_eql rfl rfl | exact dx_neq rfl rfl | exact dx_lss rfl rfl | exact dx_gtr rfl rfl | exact dx_geq rfl rfl | exact dx_leq rfl rfl | exact dx_len rfl | exact den_add rfl rfl (by omega) | exact den_sub rfl rfl (by omega) | exact dx_idx rfl rfl (by omega) (by first | assumption | exact hx) rfl | exact dx_not rfl | exact dx_len0 rfl | exact dx_eqS rfl rfl | exact dx_neS rfl rfl | exact dx_eqB rfl rfl | exact dx_neB rfl rfl | exact dx_eqP rfl rfl rfl rfl | exact dx_neP rfl rfl rfl rfl | exact dx_neg rfl (by omega) | exact dx_cutl rfl rfl (by omega) (by omega) (by assumption) | exact den_mk (r := [[I _]]) rfl rfl (by simp) | exact dx_sel rfl rfl (by omega) rfl | exact dx_mn rfl rfl | exact dx_slen rfl | exact dx_app1 (fun _ => rfl) rfl rfl (by first | omega | (simp only [List.length_append, List.length_cons, List.length_nil]; omega))) ?_ | refine den_ck (by exact dx_inr rfl rfl (by omega) (by omega)) ?_ | refine den_lets (by first | exact dx_el rfl rfl (by omega) (by first | assumption | exact hx) (by rfl) | exact denXs_cons (dx_idx rfl rfl (by omega) (by first | assumption | exact hx) rfl) (denXs_cons (dx_idx rfl rfl (by omega) (by first | assumption | exact hx) rfl) denXs_nil)) ?_ (by simp only [eCoin, eTx, eIn, eOut, eOp, ePoint, eInt, eStr, eBlock, eTree, eBook, eUndo, eBool, List.cons_append, List.nil_append]; try exact rfl) | exact den_ret rfl rfl | refine den_ifR rfl (by with_reducible rfl) (fun h => ?_) (fun h => ?_) | refine den_ifB rfl (by with_reducible rfl) (fun h => ?_) (fun h => ?_) | refine den_ifC rfl (by with_reducible rfl) (fun h => ?_) (fun h => ?_) | refine den_ifBn rfl (by with_reducible rfl) (fun h => ?_) (fun h => ?_) | refine den_ifF rfl (by with_reducible rfl) (fun h => ?_) (fun h => ?_) | refine den_ifFn rfl (by with_reducible rfl) (fun h => ?_) (fun h => ?_) | refine den_ifAndOr rfl (by with_reducible rfl) (fun h => ?_) (fun h => ?_) | refine den_ifOrAnd rfl (by with_reducible rfl) (fun h => ?_) (fun h => ?_) | refine den_ifAnd rfl (by with_reducible rfl) (fun h => ?_) (fun h => ?_) | refine den_ifOr rfl (by with_reducible rfl) (fun h => ?_) (fun h => ?_) | refine den_band rfl (by with_reducible rfl) (fun h => ?_) (fun h => ?_) | refine den_bor rfl (by with_reducible rfl) (fun h => ?_) (fun h => ?_) | refine den_T rfl (by first | assumption | omega) ?_ | refine den_F rfl (by first | assumption | omega) ?_ | refine den_t rfl ?_ | refine den_f rfl ?_)
        refine den_let1 (den_mk (r := [c].map eCoin) rfl rfl (by simp)) ?_
        refine den_let1 (den_call rfl (sp_insCoin_at _ _ _ ⟨by omega, by omega, by omega⟩) rfl) ?_
        refine den_let1 (den_add rfl rfl (by omega)) ?_
        rw [e1]
        exact den_again rfl rfl (hag _ ⟨sorted_put hs (by assumption), by simp only [List.length_append, List.length_take, List.length_drop, List.length_singleton]; omega⟩)
      · rintro r hr again'
        rw [backK]
        unfold endR
        repeat' (first | refine den_let1 (by first | exact dx_eql rfl rfl | exact dx_neq rfl rfl | exact dx_lss rfl rfl | exact dx_gtr rfl rfl | exact dx_geq rfl rfl | exact dx_leq rfl rfl | exact dx_len rfl | exact den_add rfl rfl (by omega) | exact den_sub rfl rfl (by omega) | exact dx_idx rfl rfl (by omega) (by first | assumption | exact hx) rfl | exact den_call rfl (sp_unCheck_at _) rfl | exact dx_not rfl | exact dx_len0 rfl | exact dx_eqS rfl rfl | exact dx_neS rfl rfl | exact dx_eqB rfl rfl | exact dx_neB rfl rfl | exact dx_eqP rfl rfl rfl rfl | exact dx_neP rfl rfl rfl rfl | exact dx_neg rfl (by omega) | exact dx_cutl rfl rfl (by omega) (by omega) (by assumption) | exact den_mk (r := [[I _]]) rfl rfl (by simp) | exact dx_sel rfl rfl (by omega) rfl | exact dx_mn rfl rfl | exact dx_slen rfl | exact dx_app1 (fun _ => rfl) rfl rfl (by first | omega | (simp only [List.length_append, List.length_cons, List.length_nil]; omega))) ?_ | refine den_ck (by exact dx_inr rfl rfl (by omega) (by omega)) ?_ | refine den_lets (by first | exact dx_el rfl rfl (by omega) (by first | assumption | exact hx) (by rfl) | exact dx_calls rfl (sp_unCheck_at _) (by rfl) | exact denXs_cons (dx_idx rfl rfl (by omega) (by first | assumption | exact hx) rfl) (denXs_cons (dx_idx rfl rfl (by omega) (by first | assumption | exact hx) rfl) denXs_nil)) ?_ (by simp only [eCoin, eTx, eIn, eOut, eOp, ePoint, eInt, eStr, eBlock, eTree, eBook, eUndo, eBool, List.cons_append, List.nil_append]; try exact rfl) | exact den_ret rfl rfl | refine den_ifR rfl (by with_reducible rfl) (fun h => ?_) (fun h => ?_) | refine den_ifB rfl (by with_reducible rfl) (fun h => ?_) (fun h => ?_) | refine den_ifC rfl (by with_reducible rfl) (fun h => ?_) (fun h => ?_) | refine den_ifBn rfl (by with_reducible rfl) (fun h => ?_) (fun h => ?_) | refine den_ifF rfl (by with_reducible rfl) (fun h => ?_) (fun h => ?_) | refine den_ifFn rfl (by with_reducible rfl) (fun h => ?_) (fun h => ?_) | refine den_ifAndOr rfl (by with_reducible rfl) (fun h => ?_) (fun h => ?_) | refine den_ifOrAnd rfl (by with_reducible rfl) (fun h => ?_) (fun h => ?_) | refine den_ifAnd rfl (by with_reducible rfl) (fun h => ?_) (fun h => ?_) | refine den_ifOr rfl (by with_reducible rfl) (fun h => ?_) (fun h => ?_) | refine den_band rfl (by with_reducible rfl) (fun h => ?_) (fun h => ?_) | refine den_bor rfl (by with_reducible rfl) (fun h => ?_) (fun h => ?_) | refine den_T rfl (by first | assumption | omega) ?_ | refine den_F rfl (by first | assumption | omega) ?_ | refine den_t rfl ?_ | refine den_f rfl ?_)
end Go.Proofs.Ytnnbnjanekibpaa
namespace Go.Proofs.Ytnnbnjanekibpaa
open Go.RowKit
set_option linter.unusedVariables false
set_option linter.unusedSimpArgs false
theorem hasP_mem {l : List Coin} {p : Point} : hasP l p = true ↔ ∃ c ∈ l, c.p = p := by
  unfold hasP
  rw [List.any_eq_true]
  constructor
  · rintro ⟨c, hc, h⟩; exact ⟨c, hc, of_decide_eq_true h⟩
  · rintro ⟨c, hc, h⟩; exact ⟨c, hc, decide_eq_true h⟩
theorem hasP_not {l : List Coin} {p : Point} : hasP l p = false ↔ ∀ c ∈ l, c.p ≠ p := by
  rw [← Bool.not_eq_true, hasP_mem]
  constructor
  · intro h c hc he; exact h ⟨c, hc, he⟩
  · rintro h ⟨c, hc, he⟩; exact h c hc he
theorem sorted_uniq {l : List Coin} (h : SortedC l) {c d : Coin} (hc : c ∈ l) (hd : d ∈ l) (hp : c.p = d.p) : c = d := by
  obtain ⟨i, hi, rfl⟩ := List.getElem_of_mem hc
  obtain ⟨j, hj, rfl⟩ := List.getElem_of_mem hd
  rcases Nat.lt_trichotomy i j with hij | rfl | hij
  · have := sorted_at h hij hj; rw [hp] at this; exact absurd this (ltP_irrefl _)
  · rfl
  · have := sorted_at h hij hi; rw [hp] at this; exact absurd this (ltP_irrefl _)
theorem at_pos {l : List Coin} (h : SortedC l) {c : Coin} (hc : c ∈ l) : l[posOf l c.p]? = some c := by
  obtain ⟨hlt, hp⟩ := (hasP_iff h c.p).1 (hasP_mem.2 ⟨c, hc, rfl⟩)
  rw [List.getElem?_eq_getElem hlt]
  exact congrArg some (sorted_uniq h (List.getElem_mem hlt) hc hp)
theorem at_pos' {l : List Coin} (h : SortedC l) {p : Point} (hp : hasP l p = true) : ∃ c, l[posOf l p]? = some c ∧ c ∈ l ∧ c.p = p := by
  obtain ⟨c, hc, rfl⟩ := hasP_mem.1 hp
  exact ⟨c, at_pos h hc, hc, rfl⟩
theorem sorted_ext : ∀ {a b : List Coin}, SortedC a → SortedC b → (∀ c, c ∈ a ↔ c ∈ b) → a = b
  | [], [], _, _, _ => rfl
  | [], y :: b, _, _, h => by have := (h y).2 (List.mem_cons_self ..); cases this
  | x :: a, [], _, _, h => by have := (h x).1 (List.mem_cons_self ..); cases this
  | x :: a, y :: b, ha, hb, h => by
    have ha' := List.pairwise_cons.1 ha
    have hb' := List.pairwise_cons.1 hb
    have hxy : x = y := by
      rcases List.mem_cons.1 ((h x).1 (List.mem_cons_self ..)) with e | hx
      · exact e
      · rcases List.mem_cons.1 ((h y).2 (List.mem_cons_self ..)) with e | hy
        · exact e.symm
        · exact absurd (hb'.1 x hx) (ltP_asymm (ha'.1 y hy))
    subst hxy
    congr 1
    refine sorted_ext ha'.2 hb'.2 fun c => ⟨fun hc => ?_, fun hc => ?_⟩
    · rcases List.mem_cons.1 ((h c).1 (List.mem_cons_of_mem _ hc)) with rfl | h'
      · exact absurd (ha'.1 c hc) (ltP_irrefl _)
      · exact h'
    · rcases List.mem_cons.1 ((h c).2 (List.mem_cons_of_mem _ hc)) with rfl | h'
      · exact absurd (hb'.1 c hc) (ltP_irrefl _)
      · exact h'
theorem cut_mem {l : List Coin} (h : SortedC l) {c : Coin} {k : Nat} (hk : l[k]? = some c) {d : Coin} : d ∈ l.take k ++ l.drop (k + 1) ↔ d ∈ l ∧ d.p ≠ c.p := by
  obtain ⟨hlt, rfl⟩ := List.getElem?_eq_some_iff.1 hk
  have hsplit : l = l.take k ++ l[k] :: l.drop (k + 1) := by rw [List.getElem_cons_drop, List.take_append_drop]
  have hs : SortedC (l.take k ++ l[k] :: l.drop (k + 1)) := by rw [← hsplit]; exact h
  obtain ⟨_, h2, h3⟩ := List.pairwise_append.1 hs
  have h2' := List.pairwise_cons.1 h2
  constructor
  · intro hd
    refine ⟨?_, ?_⟩
    · rcases List.mem_append.1 hd with hd | hd
      · exact List.mem_of_mem_take hd
      · exact List.mem_of_mem_drop hd
    · rcases List.mem_append.1 hd with hd | hd
      · intro e; have := h3 d hd l[k] (List.mem_cons_self ..); rw [e] at this; exact ltP_irrefl _ this
      · intro e; have := h2'.1 d hd; rw [e] at this; exact ltP_irrefl _ this
  · rintro ⟨hd, hne⟩
    rw [hsplit] at hd
    rcases List.mem_append.1 hd with hd | hd
    · exact List.mem_append_left _ hd
    · rcases List.mem_cons.1 hd with rfl | hd
      · exact absurd rfl hne
      · exact List.mem_append_right _ hd
theorem put_mem {l : List Coin} {c d : Coin} {k : Nat} : d ∈ l.take k ++ [c] ++ l.drop k ↔ d = c ∨ d ∈ l := by
  have : d ∈ l ↔ d ∈ l.take k ∨ d ∈ l.drop k := by rw [← List.mem_append, List.take_append_drop]
  rw [List.mem_append, List.mem_append, List.mem_singleton, this]
  constructor
  · rintro ((h | h) | h)
    · exact .inr (.inl h)
    · exact .inl h
    · exact .inr (.inr h)
  · rintro (h | h | h)
    · exact .inl (.inr h)
    · exact .inl (.inl h)
    · exact .inr h
theorem cut_total {l : List Coin} {c : Coin} {k : Nat} (hk : l[k]? = some c) : coinTotal l = coinTotal (l.take k ++ l.drop (k + 1)) + c.o.coin := by
  obtain ⟨hlt, rfl⟩ := List.getElem?_eq_some_iff.1 hk
  have hsplit : l = l.take k ++ l[k] :: l.drop (k + 1) := by rw [List.getElem_cons_drop, List.take_append_drop]
  have e : coinTotal l = coinTotal (l.take k ++ l[k] :: l.drop (k + 1)) := by rw [← hsplit]
  rw [e, coinTotal_append, coinTotal_append, coinTotal]
  omega
theorem put_total {l : List Coin} {c : Coin} {k : Nat} : coinTotal (l.take k ++ [c] ++ l.drop k) = coinTotal l + c.o.coin := by
  have e : coinTotal l = coinTotal (l.take k ++ l.drop k) := by rw [List.take_append_drop]
  rw [e, coinTotal_append, coinTotal_append, coinTotal_append, coinTotal, coinTotal]
  omega
structure Fine (h : Int) (x : In) (c : Coin) : Prop where
  p : c.p = x.p
  ripe : c.reward = true → c.height + 2 ≤ h
  opens : (openOf c.o.lock x.key h).1 = true
inductive Spent (h : Int) : List Coin → List Coin → List In → List Coin → List Coin → Prop
  | nil (r s) : Spent h r s [] r s
  | cons {r s x xs r' s' c} : c ∈ r → r[posOf r x.p]? = some c → Fine h x c → Spent h (r.take (posOf r x.p) ++ r.drop (posOf r x.p + 1)) (s ++ [c]) xs r' s' → Spent h r s (x :: xs) r' s'
theorem spend_cons {ρ : Type} {h : Int} {bad : Int → ρ} {K : List Coin → List Coin → ρ} {r s : List Coin} {x : In} {xs : List In} {c : Coin} (hm : c ∈ r) (hc : r[posOf r x.p]? = some c) (hf : Fine h x c) : spendK h bad K r s (x :: xs) = spendK h bad K (r.take (posOf r x.p) ++ r.drop (posOf r x.p + 1)) (s ++ [c]) xs := by
  have hp : hasP r x.p = true := hasP_mem.2 ⟨c, hm, hf.p⟩
  rw [spendK, if_pos hp, hc]
  simp only [Option.getD_some]
  rw [if_pos hf.opens]
  by_cases hr : c.reward = true
  · rw [if_pos hr, if_neg (by have := hf.ripe hr; omega)]
  · rw [if_neg hr]
theorem Spent.run {ρ : Type} {h : Int} {bad : Int → ρ} {K : List Coin → List Coin → ρ} {r s r' s' : List Coin} {xs : List In} (hs : Spent h r s xs r' s') : spendK h bad K r s xs = K r' s' := by
  induction hs with
  | nil r s => rfl
  | cons hm hc hf _ ih => rw [spend_cons hm hc hf, ih]
theorem spend_ok {h : Int} {K : List Coin → List Coin → List Coin × List Coin × Int} : ∀ {xs : List In} {r s : List Coin}, SortedC r → (spendK h bad3 K r s xs).2.2 = 0 → ∃ r' s', Spent h r s xs r' s' ∧ spendK h bad3 K r s xs = K r' s'
  | [], r, s, _, _ => ⟨r, s, .nil r s, rfl⟩
  | x :: xs, r, s, hr, h0 => by
    by_cases hp : hasP r x.p = true
    · obtain ⟨c, hc, hm, hcp⟩ := at_pos' hr hp
      have hf : Fine h x c := by
        rw [spendK, if_pos hp, hc] at h0
        simp only [Option.getD_some] at h0
        by_cases hrw : c.reward = true
        · rw [if_pos hrw] at h0
          by_cases hh : h < c.height + 2
          · rw [if_pos hh] at h0; cases h0
          · rw [if_neg hh] at h0
            by_cases ho : (openOf c.o.lock x.key h).1 = true
            · exact ⟨hcp, fun _ => by omega, ho⟩
            · rw [if_neg ho] at h0; cases h0
        · rw [if_neg hrw] at h0
          by_cases ho : (openOf c.o.lock x.key h).1 = true
          · exact ⟨hcp, fun h => absurd h hrw, ho⟩
          · rw [if_neg ho] at h0; cases h0
      have e := spend_cons (bad := bad3) (K := K) (s := s) (xs := xs) hm hc hf
      rw [e] at h0 ⊢
      obtain ⟨r', s', h1, h2⟩ := spend_ok (sorted_cut hr _) h0
      exact ⟨r', s', .cons hm hc hf h1, h2⟩
    · rw [spendK, if_neg hp] at h0
      cases h0
structure SpentAs (h : Int) (r : List Coin) (xs : List In) (r' cs : List Coin) : Prop where
  sorted : SortedC r'
  mem : ∀ c, c ∈ r' ↔ c ∈ r ∧ ∀ x ∈ xs, x.p ≠ c.p
  len : cs.length = xs.length
  fine : ∀ (i : Nat) (x : In), xs[i]? = some x → ∃ c, cs[i]? = some c ∧ c ∈ r ∧ Fine h x c
  apart : xs.Pairwise fun x y => x.p ≠ y.p
  total : coinTotal r = coinTotal r' + coinTotal cs
theorem Spent.as {h : Int} {r s r' s' : List Coin} {xs : List In} (hs : Spent h r s xs r' s') : SortedC r → ∃ cs, s' = s ++ cs ∧ SpentAs h r xs r' cs := by
  induction hs with
  | nil r s => exact fun hr => ⟨[], (List.append_nil s).symm, hr, fun c => by simp, rfl, fun i x hx => by simp at hx, .nil, by simp [coinTotal]⟩
  | @cons r s x xs r' s' c hm hc hf hs ih =>
    intro hr
    obtain ⟨cs, rfl, H⟩ := ih (sorted_cut hr _)
    have hcm := fun d => cut_mem hr hc (d := d)
    refine ⟨c :: cs, by simp, H.sorted, fun d => ?_, by simp [H.len], fun i y hy => ?_, ?_, ?_⟩
    · rw [H.mem, hcm]
      constructor
      · rintro ⟨⟨h1, h2⟩, h3⟩
        refine ⟨h1, fun y hy => ?_⟩
        rcases List.mem_cons.1 hy with rfl | hy
        · rw [← hf.p]; exact fun e => h2 e.symm
        · exact h3 y hy
      · rintro ⟨h1, h2⟩
        exact ⟨⟨h1, fun e => h2 x (List.mem_cons_self ..) (by rw [← hf.p, e])⟩, fun y hy => h2 y (List.mem_cons_of_mem _ hy)⟩
    · cases i with
      | zero =>
        simp only [List.getElem?_cons_zero, Option.some.injEq] at hy
        subst hy
        exact ⟨c, rfl, hm, hf⟩
      | succ i =>
        obtain ⟨d, h1, h2, h3⟩ := H.fine i y (by simpa using hy)
        exact ⟨d, by simpa using h1, (hcm d).1 h2 |>.1, h3⟩
    · refine List.pairwise_cons.2 ⟨fun y hy => ?_, H.apart⟩
      obtain ⟨i, hi⟩ := List.getElem?_of_mem hy
      obtain ⟨d, _, h2, h3⟩ := H.fine i y hi
      have := ((hcm d).1 h2).2
      rw [h3.p, hf.p] at this
      exact fun e => this e.symm
    · rw [cut_total hc, H.total, coinTotal]; omega
theorem Spent.of {h : Int} : ∀ {xs : List In} {r s cs : List Coin}, SortedC r → xs.Pairwise (fun x y => x.p ≠ y.p) → cs.length = xs.length → (∀ (i : Nat) (x : In), xs[i]? = some x → ∃ c, cs[i]? = some c ∧ c ∈ r ∧ Fine h x c) → ∃ r', Spent h r s xs r' (s ++ cs)
  | [], r, s, cs, hr, ha, hl, hf => by
    have : cs = [] := List.eq_nil_of_length_eq_zero hl
    subst this
    exact ⟨r, by rw [List.append_nil]; exact .nil r s⟩
  | x :: xs, r, s, [], hr, ha, hl, hf => by cases hl
  | x :: xs, r, s, c :: cs, hr, ha, hl, hf => by
    obtain ⟨c', h1, hm, hfx⟩ := hf 0 x rfl
    simp only [List.getElem?_cons_zero, Option.some.injEq] at h1
    subst h1
    have hc : r[posOf r x.p]? = some c := by rw [← hfx.p]; exact at_pos hr hm
    have ha' := List.pairwise_cons.1 ha
    obtain ⟨r', hs⟩ := Spent.of (s := s ++ [c]) (cs := cs) (sorted_cut hr (posOf r x.p)) ha'.2 (by simpa using hl) fun i y hy => by
      obtain ⟨d, k1, k2, k3⟩ := hf (i + 1) y (by simpa using hy)
      refine ⟨d, by simpa using k1, (cut_mem hr hc).2 ⟨k2, ?_⟩, k3⟩
      rw [k3.p, hfx.p]
      exact fun e => ha'.1 y (List.mem_of_getElem? hy) e.symm
    exact ⟨r', .cons hm hc hfx (by rw [List.append_assoc] at hs; exact hs)⟩
def outCoin (nm h : Int) (rw : Bool) (i : Nat) (o : Out) : Coin := ⟨⟨nm, i⟩, o, h, rw⟩
inductive Brought (nm h : Int) (rw : Bool) : List Coin → Nat → List Out → List Coin → Prop
  | nil (r i) : Brought nm h rw r i [] r
  | cons {r : List Coin} {i : Nat} {o : Out} {os : List Out} {m : List Coin} : hasP r ⟨nm, i⟩ = false → Brought nm h rw (r.take (posOf r ⟨nm, i⟩) ++ [outCoin nm h rw i o] ++ r.drop (posOf r ⟨nm, i⟩)) (i + 1) os m → Brought nm h rw r i (o :: os) m
theorem Brought.run {ρ : Type} {nm h : Int} {rw : Bool} {bad : Int → ρ} {K : List Coin → ρ} {r m : List Coin} {i : Nat} {os : List Out} (hb : Brought nm h rw r i os m) : bringK nm h rw bad K r i os = K m := by
  induction hb with
  | nil r i => rfl
  | cons hn _ ih => rw [bringK, if_neg (by simp [hn])]; exact ih
theorem bring_ok {nm h : Int} {rw : Bool} {K : List Coin → List Coin × List Coin × Int} : ∀ {os : List Out} {r : List Coin} {i : Nat}, (bringK nm h rw bad3 K r i os).2.2 = 0 → ∃ m, Brought nm h rw r i os m ∧ bringK nm h rw bad3 K r i os = K m
  | [], r, i, _ => ⟨r, .nil r i, rfl⟩
  | o :: os, r, i, h0 => by
    rw [bringK] at h0 ⊢
    cases hp : hasP r ⟨nm, i⟩ with
    | true => rw [hp, if_pos rfl] at h0; cases h0
    | false =>
      rw [hp, if_neg (by simp)] at h0
      rw [if_neg (by simp)]
      obtain ⟨m, h1, h2⟩ := bring_ok h0
      exact ⟨m, .cons hp h1, h2⟩
def outsTotal (os : List Out) : Int := (os.map Out.coin).sum
structure BroughtAs (nm h : Int) (rw : Bool) (r : List Coin) (i : Nat) (os : List Out) (m : List Coin) : Prop where
  sorted : SortedC m
  mem : ∀ c, c ∈ m ↔ c ∈ r ∨ ∃ (j : Nat) (o : Out), os[j]? = some o ∧ c = outCoin nm h rw (i + j) o
  free : ∀ c ∈ r, ∀ j, j < os.length → c.p ≠ ⟨nm, ((i + j : Nat) : Int)⟩
  total : coinTotal m = coinTotal r + outsTotal os
  len : m.length = r.length + os.length
theorem Brought.as {nm h : Int} {rw : Bool} {r m : List Coin} {i : Nat} {os : List Out} (hb : Brought nm h rw r i os m) : SortedC r → BroughtAs nm h rw r i os m := by
  induction hb with
  | nil r i => exact fun hr => ⟨hr, fun c => by simp, fun c _ j hj => by simp at hj, by simp [outsTotal], by simp⟩
  | @cons r i o os m hn hb ih =>
    intro hr
    have H := ih (sorted_put hr (c := outCoin nm h rw i o) hn)
    refine ⟨H.sorted, fun c => ?_, fun c hc j hj => ?_, ?_, ?_⟩
    · rw [H.mem, put_mem]
      constructor
      · rintro ((rfl | h1) | ⟨j, q, h1, h2⟩)
        · exact .inr ⟨0, o, rfl, rfl⟩
        · exact .inl h1
        · exact .inr ⟨j + 1, q, by simpa using h1, by rw [h2, show i + 1 + j = i + (j + 1) by omega]⟩
      · rintro (h1 | ⟨j, q, h1, h2⟩)
        · exact .inl (.inr h1)
        · cases j with
          | zero =>
            simp only [List.getElem?_cons_zero, Option.some.injEq] at h1
            subst h1
            exact .inl (.inl h2)
          | succ j => exact .inr ⟨j, q, by simpa using h1, by rw [h2, show i + 1 + j = i + (j + 1) by omega]⟩
    · cases j with
      | zero => exact hasP_not.1 hn c hc
      | succ j =>
        have := H.free c (put_mem.2 (.inr hc)) j (by simpa using hj)
        rwa [show i + 1 + j = i + (j + 1) by omega] at this
    · rw [H.total, put_total]
      simp only [outsTotal, List.map_cons, List.sum_cons, outCoin]
      omega
    · rw [H.len]
      simp only [List.length_append, List.length_take, List.length_drop, List.length_cons, List.length_nil]
      omega
theorem Brought.of {nm h : Int} {rw : Bool} : ∀ {os : List Out} {r : List Coin} {i : Nat}, SortedC r → (∀ c ∈ r, ∀ j, j < os.length → c.p ≠ ⟨nm, ((i + j : Nat) : Int)⟩) → ∃ m, Brought nm h rw r i os m
  | [], r, i, _, _ => ⟨r, .nil r i⟩
  | o :: os, r, i, hr, hf => by
    have hn : hasP r ⟨nm, i⟩ = false := hasP_not.2 fun c hc => hf c hc 0 (by simp)
    obtain ⟨m, hb⟩ := Brought.of (os := os) (i := i + 1) (sorted_put hr (c := outCoin nm h rw i o) hn) fun c hc j hj => by
      rcases put_mem.1 hc with rfl | hc
      · simp only [outCoin, ne_eq, Point.mk.injEq, not_and]
        intro _
        omega
      · have := hf c hc (j + 1) (by simpa using hj)
        rwa [show i + (j + 1) = i + 1 + j by omega] at this
    exact ⟨m, .cons hn hb⟩
theorem foldl_sub (os : List Out) : ∀ s : Int, os.foldl (fun s o => s - o.coin) s = s - outsTotal os := by
  induction os with
  | nil => intro s; simp [outsTotal]
  | cons o os ih => intro s; rw [List.foldl_cons, ih]; simp only [outsTotal, List.map_cons, List.sum_cons]; omega
theorem feeOf_eq (t : Tx) (s : List Coin) : feeOf t s = coinTotal s - outsTotal t.outs := by
  unfold feeOf
  rw [foldl_sub, foldl_total]
  omega
structure Done (l : List Coin) (t : Tx) (nm h : Int) (r s m : List Coin) : Prop where
  ok : CoinsOK l
  tx : txCheck t = 0
  nm1 : 1 ≤ nm
  nm2 : nm ≤ 120
  h1 : 1 ≤ h
  h2 : h ≤ 1000
  height : t.ins.length = 0 → t.height = h
  spent : Spent h l [] t.ins r s
  fee : t.ins.length ≠ 0 → 0 ≤ feeOf t s
  brought : Brought nm h (decide ((t.ins.length : Int) = 0)) r 0 t.outs m
  end_ : CoinsOK m
theorem Done.run {l : List Coin} {t : Tx} {nm h : Int} {r s m : List Coin} (d : Done l t nm h r s m) : applyOf l t nm h = (m, s, 0) := by
  unfold applyOf
  have hE : endA s m = (m, s, 0) := by
    unfold endA
    rw [if_neg (by rw [(coinsCheck_iff m).2 d.end_]; decide)]
  have a := d.nm1; have b := d.nm2; have c := d.h1; have e := d.h2
  rw [if_neg (by rw [(coinsCheck_iff l).2 d.ok]; decide), if_neg (by rw [d.tx]; decide), if_neg (by omega)]
  by_cases h0 : (t.ins.length : Int) = 0
  · rw [if_pos h0, if_neg (by rw [d.height (by omega)]; simp), d.spent.run, d.brought.run, hE]
  · rw [if_neg h0, d.spent.run, if_neg (by have := d.fee (by omega); omega), d.brought.run, hE]
theorem apply_done {l : List Coin} {t : Tx} {nm h : Int} (h0 : (applyOf l t nm h).2.2 = 0) : ∃ r, Done l t nm h r (applyOf l t nm h).2.1 (applyOf l t nm h).1 := by
  have key : ∃ r s m, Done l t nm h r s m := by
    unfold applyOf at h0
    by_cases k1 : coinsCheck l = 0
    · rw [if_neg (by rw [k1]; decide)] at h0
      have ok := (coinsCheck_iff l).1 k1
      by_cases k2 : txCheck t = 0
      · rw [if_neg (by rw [k2]; decide)] at h0
        by_cases k3 : nm < 1 ∨ 120 < nm ∨ h < 1 ∨ 1000 < h
        · rw [if_pos k3] at h0; cases h0
        · rw [if_neg k3] at h0
          by_cases k4 : (t.ins.length : Int) = 0
          · rw [if_pos k4] at h0
            by_cases k5 : t.height ≠ h
            · rw [if_pos k5] at h0; cases h0
            · rw [if_neg k5] at h0
              obtain ⟨r, s, q1, q2⟩ := spend_ok ok.sorted h0
              rw [q2] at h0
              obtain ⟨m, q3, q4⟩ := bring_ok h0
              rw [q4] at h0
              unfold endA at h0
              by_cases k6 : coinsCheck m = 0
              · exact ⟨r, s, m, ok, k2, by omega, by omega, by omega, by omega, fun _ => Decidable.not_not.1 k5, q1, fun h => absurd (by omega) h, q3, (coinsCheck_iff m).1 k6⟩
              · rw [if_pos k6] at h0; exact absurd h0 k6
          · rw [if_neg k4] at h0
            obtain ⟨r, s, q1, q2⟩ := spend_ok ok.sorted h0
            rw [q2] at h0
            by_cases k5 : feeOf t s < 0
            · simp only [if_pos k5] at h0; cases h0
            · simp only [if_neg k5] at h0
              obtain ⟨m, q3, q4⟩ := bring_ok h0
              rw [q4] at h0
              unfold endA at h0
              by_cases k6 : coinsCheck m = 0
              · exact ⟨r, s, m, ok, k2, by omega, by omega, by omega, by omega, fun h => absurd (by omega) k4, q1, fun _ => by omega, q3, (coinsCheck_iff m).1 k6⟩
              · rw [if_pos k6] at h0; exact absurd h0 k6
      · rw [if_pos k2] at h0; exact absurd h0 k2
    · rw [if_pos k1] at h0; exact absurd h0 k1
  obtain ⟨r, s, m, d⟩ := key
  refine ⟨r, ?_⟩
  rw [d.run]
  exact d
end Go.Proofs.Ytnnbnjanekibpaa
namespace Go.Proofs.Ytnnbnjanekibpaa
open Go.RowKit
set_option linter.unusedVariables false
set_option linter.unusedSimpArgs false
set_option maxRecDepth 100000
set_option maxHeartbeats 4000000
def thereK : List Op := [⟨1, 1⟩]
def thereT0 : Tx := ⟨3, [], [⟨9, thereK⟩]⟩
def thereT1 : Tx := ⟨0, [⟨⟨4, 0⟩, []⟩], [⟨5, thereK⟩, ⟨3, thereK⟩]⟩
def thereL : List Coin := [⟨⟨4, 0⟩, ⟨9, thereK⟩, 3, true⟩]
def thereM : List Coin := [⟨⟨7, 0⟩, ⟨5, thereK⟩, 5, false⟩, ⟨⟨7, 1⟩, ⟨3, thereK⟩, 5, false⟩]
theorem there1 : applyOf [] thereT0 4 3 = (thereL, [], 0) := by kernel_rfl
theorem there2 : applyOf thereL thereT1 7 4 = ([], [], 10) := by kernel_rfl
theorem there3 : applyOf thereL thereT1 7 5 = (thereM, thereL, 0) := by kernel_rfl
theorem there4 : totalOf thereM = (8, 0) := by kernel_rfl
attribute [local irreducible] specOf spD ordP coinsCheck txCheck applyOf
noncomputable def sp_lThere : Spec := spD (fun _ : Unit => True) fun _ => true
theorem sp_lThere_at : sp_lThere [] = some [.b true] := spD_at (f := fun _ : Unit => true) () trivial
def t_lThere_0 : T :=
  .lets [.idx (.v 10) (.c (.i .i64 1)) 0, .idx (.v 10) (.c (.i .i64 1)) 1] [] (.lets [.eqs false [(.v 24, .c (.i .i64 7)), (.v 25, .c (.i .i64 1))]] [] (.ret [.v 26]))
def t_lThere_1 : T :=
  .lets [.len (.v 10)] [] (.lets [.bin .eql (.v 22) (.c (.i .i64 2))] [] (.ite (.v 23) (.lets [] [.inr 6 (.v 10) (.c (.i .i64 1))] t_lThere_0) (.ret [.c (.b false)])))
def t_lThere_2 : T :=
  .lets [.bin .eql (.v 13) (.c (.i .i64 8))] [] (.ite (.v 19) (.lets [.len (.v 11)] [] (.lets [.bin .eql (.v 20) (.c (.i .i64 1))] [] (.ite (.v 21) t_lThere_1 (.ret [.c (.b
  false)])))) (.ret [.c (.b false)]))
def t_lThere_3 : T :=
  .lets [.bin .eql (.v 12) (.c (.i .i64 0))] [] (.ite (.v 17) (.lets [.bin .eql (.v 14) (.c (.i .i64 0))] [] (.ite (.v 18) t_lThere_2 (.ret [.c (.b false)]))) (.ret [.c (.b false)]))
def t_lThere_4 : T :=
  .lets [.bin .eql (.v 4) (.c (.i .i64 0))] [] (.ite (.v 15) (.lets [.bin .eql (.v 9) (.c (.i .i64 10))] [] (.ite (.v 16) t_lThere_3 (.ret [.c (.b false)]))) (.ret [.c (.b false)]))
def t_lThere_5 : T :=
  .lets [.call 18 [.v 2, .c (.i .i64 0), .v 5, .v 6, .c (.i .i64 7), .c (.i .i64 5)] 0, .call 18 [.v 2, .c (.i .i64 0), .v 5, .v 6, .c (.i .i64 7), .c (.i .i64 5)] 1, .call 18 [.v 2,
  .c (.i .i64 0), .v 5, .v 6, .c (.i .i64 7), .c (.i .i64 5)] 2] [] (.lets [.call 12 [.v 10] 0, .call 12 [.v 10] 1] [] t_lThere_4)
def t_lThere_6 : T :=
  .lets [.call 18 [.v 2, .c (.i .i64 0), .v 5, .v 6, .c (.i .i64 7), .c (.i .i64 4)] 0, .call 18 [.v 2, .c (.i .i64 0), .v 5, .v 6, .c (.i .i64 7), .c (.i .i64 4)] 1, .call 18 [.v 2,
  .c (.i .i64 0), .v 5, .v 6, .c (.i .i64 7), .c (.i .i64 4)] 2] [] t_lThere_5
def t_lThere_7 : T :=
  .lets [.call 18 [.c (.nil 6), .c (.i .i64 3), .c (.nil 3), .v 1, .c (.i .i64 4), .c (.i .i64 3)] 0, .call 18 [.c (.nil 6), .c (.i .i64 3), .c (.nil 3), .v 1, .c (.i .i64 4), .c (.i
  .i64 3)] 1, .call 18 [.c (.nil 6), .c (.i .i64 3), .c (.nil 3), .v 1, .c (.i .i64 4), .c (.i .i64 3)] 2] [] (.lets [.mk 3 [[.c (.i .i64 4), .c (.i .i64 0), .c (.nil 2)]]] [] (.lets
  [.mk 2 [[.c (.i .i64 5), .v 0], [.c (.i .i64 3), .v 0]]] [] t_lThere_6))
def t_lThere : T :=
  .lets [.mk 2 [[.c (.i .i64 1), .c (.i .i64 1)]]] [] (.lets [.mk 2 [[.c (.i .i64 9), .v 0]]] [] t_lThere_7)
theorem m_lThere : Meets Try.prog sp_lThere 52 ⟨[], [(false, [.scal])], true⟩ := by
  refine meets_fast (sp := (spsOf [(12, sp_unTotal), (18, sp_unApply)])) (sigs := sigsA) (cut := []) (hints := []) (fn := Try.f52) (t := t_lThere) (by kernel_rfl) (by kernel_rfl) (by kernel_rfl) ?_ ?_
  · exact (sig_of (L := [(12, sp_unTotal), (18, sp_unApply)]) ⟨sig_at rfl m_unTotal, sig_at rfl m_unApply, trivial⟩)
  · rintro ds rs - h
    obtain ⟨⟨⟩, -, rfl, rfl⟩ := spD_some h
    clear h
    refine ⟨⟨1, ?_⟩, scalOk_1 rfl⟩
    show den _ _ t_lThere [] [] = ret true
    have a1 := sp_unApply_at [] thereT0 4 3
    rw [there1] at a1
    have a2 := sp_unApply_at thereL thereT1 7 4
    rw [there2] at a2
    have a3 := sp_unApply_at thereL thereT1 7 5
    rw [there3] at a3
    have a4 := sp_unTotal_at thereM
    rw [there4] at a4
    unfold t_lThere
    refine den_let1 (den_mk (r := thereK.map eOp) rfl rfl (by decide)) ?_
    refine den_let1 (den_mk (r := thereT0.outs.map eOut) rfl rfl (by decide)) ?_
    refine den_lets (dx_calls rfl a1 (by rfl)) ?_ (by simp only [eCoin, eTx, eIn, eOut, eOp, ePoint, eInt, eStr, eBlock, eTree, eBook, eUndo, eBool, List.cons_append, List.nil_append]; try exact rfl)
    refine den_let1 (den_mk (r := thereT1.ins.map eIn) rfl rfl (by decide)) ?_
    refine den_let1 (den_mk (r := thereT1.outs.map eOut) rfl rfl (by decide)) ?_
    refine den_lets (dx_calls rfl a2 (by rfl)) ?_ (by simp only [eCoin, eTx, eIn, eOut, eOp, ePoint, eInt, eStr, eBlock, eTree, eBook, eUndo, eBool, List.cons_append, List.nil_append]; try exact rfl)
    refine den_lets (dx_calls rfl a3 (by rfl)) ?_ (by simp only [eCoin, eTx, eIn, eOut, eOp, ePoint, eInt, eStr, eBlock, eTree, eBook, eUndo, eBool, List.cons_append, List.nil_append]; try exact rfl)
    refine den_lets (dx_calls rfl a4 (by rfl)) ?_ (by simp only [eCoin, eTx, eIn, eOut, eOp, ePoint, eInt, eStr, eBlock, eTree, eBook, eUndo, eBool, List.cons_append, List.nil_append]; try exact rfl)
    repeat' (first | refine den_let1 (by first | exact dx_eql rfl rfl | exact dx_neq rfl rfl | exact dx_lss rfl rfl | exact dx_gtr rfl rfl | exact dx_geq rfl rfl | exact dx_leq rfl rfl | exact dx_len rfl | exact den_add rfl rfl (by omega) | exact den_sub rfl rfl (by omega) | exact dx_idx rfl rfl (by omega) (by first | assumption | exact hx) rfl | exact dx_not rfl | exact dx_len0 rfl | exact dx_eqS rfl rfl | exact dx_neS rfl rfl | exact dx_eqB rfl rfl | exact dx_neB rfl rfl | exact dx_eqP rfl rfl rfl rfl | exact dx_neP rfl rfl rfl rfl | exact dx_neg rfl (by omega) | exact dx_cutl rfl rfl (by omega) (by omega) (by assumption) | exact den_mk (r := [[I _]]) rfl rfl (by simp) | exact dx_sel rfl rfl (by omega) rfl | exact dx_mn rfl rfl | exact dx_slen rfl | exact dx_app1 (fun _ => rfl) rfl rfl (by first | omega | (simp only [List.length_append, List.length_cons, List.length_nil]; omega))) ?_ | refine den_ck (by exact dx_inr rfl rfl (by omega) (by omega)) ?_ | refine den_lets (by first | exact dx_el rfl rfl (by omega) (by first | assumption | exact hx) (by rfl) | exact denXs_cons (dx_idx rfl rfl (by omega) (by first | assumption | exact hx) rfl) (denXs_cons (dx_idx rfl rfl (by omega) (by first | assumption | exact hx) rfl) denXs_nil)) ?_ (by simp only [eCoin, eTx, eIn, eOut, eOp, ePoint, eInt, eStr, eBlock, eTree, eBook, eUndo, eBool, List.cons_append, List.nil_append]; try exact rfl) | exact den_ret rfl rfl | refine den_ifR rfl (by with_reducible rfl) (fun h => ?_) (fun h => ?_) | refine den_ifB rfl (by with_reducible rfl) (fun h => ?_) (fun h => ?_) | refine den_ifC rfl (by with_reducible rfl) (fun h => ?_) (fun h => ?_) | refine den_ifBn rfl (by with_reducible rfl) (fun h => ?_) (fun h => ?_) | refine den_ifF rfl (by with_reducible rfl) (fun h => ?_) (fun h => ?_) | refine den_ifFn rfl (by with_reducible rfl) (fun h => ?_) (fun h => ?_) | refine den_ifAndOr rfl (by with_reducible rfl) (fun h => ?_) (fun h => ?_) | refine den_ifOrAnd rfl (by with_reducible rfl) (fun h => ?_) (fun h => ?_) | refine den_ifAnd rfl (by with_reducible rfl) (fun h => ?_) (fun h => ?_) | refine den_ifOr rfl (by with_reducible rfl) (fun h => ?_) (fun h => ?_) | refine den_band rfl (by with_reducible rfl) (fun h => ?_) (fun h => ?_) | refine den_bor rfl (by with_reducible rfl) (fun h => ?_) (fun h => ?_) | refine den_T rfl (by first | assumption | omega) ?_ | refine den_F rfl (by first | assumption | omega) ?_ | refine den_t rfl ?_ | refine den_f rfl ?_)
    refine den_ck (by exact dx_inr (l := thereM) (f := eCoin) rfl rfl (by decide) (by decide)) ?_
    have hx : thereM[(1 : Int).toNat]? = some ⟨⟨7, 1⟩, ⟨3, thereK⟩, 5, false⟩ := rfl
    refine den_lets (denXs_cons (dx_idx (l := thereM) (f := eCoin) rfl rfl (by decide) hx rfl) (denXs_cons (dx_idx (l := thereM) (f := eCoin) rfl rfl (by decide) hx rfl) denXs_nil)) ?_ (by simp only [eCoin, eTx, eIn, eOut, eOp, ePoint, eInt, eStr, eBlock, eTree, eBook, eUndo, eBool, List.cons_append, List.nil_append]; try exact rfl)
    refine den_let1 (dx_eqP (p := ⟨7, 1⟩) (q := ⟨7, 1⟩) rfl rfl rfl rfl) ?_
    exact den_ret rfl rfl
theorem twice_gone {l : List Coin} {t : Tx} {nm h : Int} (h0 : (applyOf l t nm h).2.2 = 0) (hn : ∀ x ∈ t.ins, x.p.tx ≠ nm) : ∀ x ∈ t.ins, ∀ c ∈ (applyOf l t nm h).1, c.p ≠ x.p := by
  obtain ⟨r, d⟩ := apply_done h0
  obtain ⟨cs, _, S⟩ := d.spent.as d.ok.sorted
  have B := d.brought.as S.sorted
  intro x hx c hc e
  rcases (B.mem c).1 hc with hc | ⟨j, o, _, rfl⟩
  · exact ((S.mem c).1 hc).2 x hx e.symm
  · exact hn x hx (by rw [← e]; rfl)
theorem spent_there {l : List Coin} {t : Tx} {nm h : Int} (h0 : (applyOf l t nm h).2.2 = 0) : ∀ x ∈ t.ins, ∃ c ∈ l, c.p = x.p := by
  obtain ⟨r, d⟩ := apply_done h0
  obtain ⟨cs, _, S⟩ := d.spent.as d.ok.sorted
  intro x hx
  obtain ⟨i, hi⟩ := List.getElem?_of_mem hx
  obtain ⟨c, _, hc, hf⟩ := S.fine i x hi
  exact ⟨c, hc, hf.p⟩
theorem ins_le {l : List Coin} {t : Tx} {nm h : Int} (h0 : (applyOf l t nm h).2.2 = 0) : t.ins.length ≤ 6 := let ⟨_, d⟩ := apply_done h0; (txCheck_ok d.tx).ins
theorem all_take {α : Type} {l : List α} {P : α → Prop} {k : Nat} {x : α} (h : ∀ y ∈ l.take k, P y) (hx : l[k]? = some x) (hp : P x) : ∀ y ∈ l.take (k + 1), P y := by
  intro y hy
  rw [List.take_add_one, hx] at hy
  rcases List.mem_append.1 hy with hy | hy
  · exact h y hy
  · simp only [Option.toList_some, List.mem_singleton] at hy; subst hy; exact hp
noncomputable def sp_lUnTwice : Spec := spD (fun _ : List Coin × Tx × Int × Int × Tx × Int × Int => True) fun _ => true
def t_lUnTwice_0 : T :=
  .ite (.v 51) (.lets [.bin .geq (.v 38) (.c (.i .i64 0))] [] (.ite (.v 52) (.ret [.c (.b false)]) (.ret [.c (.b true)]))) (.lets [.bin .add (.v 38) (.c (.i .i64 1))] [] (.again 1 [.v
  37, .v 52]))
def t_lUnTwice_1 : T :=
  .lets [.eqs false [(.v 47, .v 40), (.v 48, .v 41)]] [] (.ite (.v 50) (.lets [.bin .geq (.v 45) (.c (.i .i64 0))] [] t_lUnTwice_0) (.lets [.bin .add (.v 45) (.c (.i .i64 1))] []
  (.again 2 [.v 44, .v 51])))
def t_lUnTwice_2 : T :=
  .ite (.v 47) (.lets [.bin .geq (.v 38) (.c (.i .i64 0))] [] (.ite (.v 48) (.ret [.c (.b false)]) (.ret [.c (.b true)]))) (.lets [.bin .add (.v 38) (.c (.i .i64 1))] [] (.again 1 [.v
  37, .v 48]))
def t_lUnTwice_3 : T :=
  .ite (.v 46) (.lets [] [.inr 3 (.v 2) (.v 45)] (.lets [.idx (.v 2) (.v 45) 0, .idx (.v 2) (.v 45) 1, .idx (.v 2) (.v 45) 2] [] t_lUnTwice_1)) (.lets [.bin .geq (.c (.i .i64 (-1)))
  (.c (.i .i64 0))] [] t_lUnTwice_2)
def t_lUnTwice_4 : T :=
  .lets [.idx (.v 7) (.v 38) 0, .idx (.v 7) (.v 38) 1, .idx (.v 7) (.v 38) 2] [] (.lets [.len (.v 2)] [] (.loop [.c (.i .i64 0), .c (.i .i64 0)] (.lets [.bin .lss (.v 45) (.v 43)] []
  t_lUnTwice_3)))
def t_lUnTwice_5 : T :=
  .ite (.v 39) (.lets [] [.inr 3 (.v 7) (.v 38)] t_lUnTwice_4) (.lets [.bin .geq (.c (.i .i64 (-1))) (.c (.i .i64 0))] [] (.ite (.v 40) (.ret [.c (.b false)]) (.ret [.c (.b true)])))
def t_lUnTwice_6 : T :=
  .lets [.bin .eql (.v 34) (.c (.i .i64 0))] [] (.ite (.v 35) (.lets [.len (.v 7)] [] (.loop [.c (.i .i64 0), .c (.i .i64 0)] (.lets [.bin .lss (.v 38) (.v 36)] [] t_lUnTwice_5)))
  (.ret [.c (.b true)]))
def t_lUnTwice_7 : T :=
  .lets [.call 18 [.v 11, .v 6, .v 7, .v 8, .v 9, .v 10] 0, .call 18 [.v 11, .v 6, .v 7, .v 8, .v 9, .v 10] 1, .call 18 [.v 11, .v 6, .v 7, .v 8, .v 9, .v 10] 2] [] t_lUnTwice_6
def t_lUnTwice_8 : T :=
  .lets [.call 18 [.v 11, .v 1, .v 2, .v 3, .v 9, .v 10] 0, .call 18 [.v 11, .v 1, .v 2, .v 3, .v 9, .v 10] 1, .call 18 [.v 11, .v 1, .v 2, .v 3, .v 9, .v 10] 2] [] (.lets [.bin .eql
  (.v 30) (.c (.i .i64 0))] [] (.ite (.v 31) (.ret [.c (.b false)]) t_lUnTwice_7))
def t_lUnTwice_9 : T :=
  .ite (.v 26) (.lets [.bin .geq (.v 21) (.c (.i .i64 0))] [] (.ite (.v 27) (.lets [.call 20 [] 0] [] (.ret [.v 28])) t_lUnTwice_8)) (.lets [.bin .add (.v 21) (.c (.i .i64 1))] []
  (.again 0 [.v 20, .v 27]))
def t_lUnTwice_10 : T :=
  .lets [] [.inr 3 (.v 2) (.v 21)] (.lets [.idx (.v 2) (.v 21) 0, .idx (.v 2) (.v 21) 1, .idx (.v 2) (.v 21) 2] [] (.lets [.bin .eql (.v 23) (.v 4)] [] t_lUnTwice_9))
def t_lUnTwice_11 : T :=
  .ite (.v 47) (.lets [.bin .geq (.v 34) (.c (.i .i64 0))] [] (.ite (.v 48) (.ret [.c (.b false)]) (.ret [.c (.b true)]))) (.lets [.bin .add (.v 34) (.c (.i .i64 1))] [] (.again 1 [.v
  33, .v 48]))
def t_lUnTwice_12 : T :=
  .lets [.eqs false [(.v 43, .v 36), (.v 44, .v 37)]] [] (.ite (.v 46) (.lets [.bin .geq (.v 41) (.c (.i .i64 0))] [] t_lUnTwice_11) (.lets [.bin .add (.v 41) (.c (.i .i64 1))] []
  (.again 2 [.v 40, .v 47])))
def t_lUnTwice_13 : T :=
  .ite (.v 43) (.lets [.bin .geq (.v 34) (.c (.i .i64 0))] [] (.ite (.v 44) (.ret [.c (.b false)]) (.ret [.c (.b true)]))) (.lets [.bin .add (.v 34) (.c (.i .i64 1))] [] (.again 1 [.v
  33, .v 44]))
def t_lUnTwice_14 : T :=
  .ite (.v 42) (.lets [] [.inr 3 (.v 2) (.v 41)] (.lets [.idx (.v 2) (.v 41) 0, .idx (.v 2) (.v 41) 1, .idx (.v 2) (.v 41) 2] [] t_lUnTwice_12)) (.lets [.bin .geq (.c (.i .i64 (-1)))
  (.c (.i .i64 0))] [] t_lUnTwice_13)
def t_lUnTwice_15 : T :=
  .lets [.idx (.v 7) (.v 34) 0, .idx (.v 7) (.v 34) 1, .idx (.v 7) (.v 34) 2] [] (.lets [.len (.v 2)] [] (.loop [.c (.i .i64 0), .c (.i .i64 0)] (.lets [.bin .lss (.v 41) (.v 39)] []
  t_lUnTwice_14)))
def t_lUnTwice_16 : T :=
  .ite (.v 35) (.lets [] [.inr 3 (.v 7) (.v 34)] t_lUnTwice_15) (.lets [.bin .geq (.c (.i .i64 (-1))) (.c (.i .i64 0))] [] (.ite (.v 36) (.ret [.c (.b false)]) (.ret [.c (.b true)])))
def t_lUnTwice_17 : T :=
  .lets [.bin .eql (.v 30) (.c (.i .i64 0))] [] (.ite (.v 31) (.lets [.len (.v 7)] [] (.loop [.c (.i .i64 0), .c (.i .i64 0)] (.lets [.bin .lss (.v 34) (.v 32)] [] t_lUnTwice_16)))
  (.ret [.c (.b true)]))
def t_lUnTwice_18 : T :=
  .lets [.call 18 [.v 11, .v 6, .v 7, .v 8, .v 9, .v 10] 0, .call 18 [.v 11, .v 6, .v 7, .v 8, .v 9, .v 10] 1, .call 18 [.v 11, .v 6, .v 7, .v 8, .v 9, .v 10] 2] [] t_lUnTwice_17
def t_lUnTwice_19 : T :=
  .lets [.call 18 [.v 11, .v 1, .v 2, .v 3, .v 9, .v 10] 0, .call 18 [.v 11, .v 1, .v 2, .v 3, .v 9, .v 10] 1, .call 18 [.v 11, .v 1, .v 2, .v 3, .v 9, .v 10] 2] [] (.lets [.bin .eql
  (.v 26) (.c (.i .i64 0))] [] (.ite (.v 27) (.ret [.c (.b false)]) t_lUnTwice_18))
def t_lUnTwice_20 : T :=
  .lets [.bin .lss (.v 21) (.v 19)] [] (.ite (.v 22) t_lUnTwice_10 (.lets [.bin .geq (.c (.i .i64 (-1))) (.c (.i .i64 0))] [] (.ite (.v 23) (.lets [.call 20 [] 0] [] (.ret [.v 24]))
  t_lUnTwice_19)))
def t_lUnTwice_21 : T :=
  .lets [.bin .eql (.v 17) (.c (.i .i64 0))] [] (.ite (.v 18) (.lets [.call 20 [] 0] [] (.ret [.v 19])) (.lets [.len (.v 2)] [] (.loop [.c (.i .i64 0), .c (.i .i64 0)]
  t_lUnTwice_20)))
def t_lUnTwice_22 : T :=
  .ite (.v 15) (.lets [.call 20 [] 0] [] (.ret [.v 16])) (.lets [.bin .neq (.v 13) (.c (.i .i64 0))] [] (.ite (.v 16) (.lets [.call 20 [] 0] [] (.ret [.v 17])) (.lets [.len (.v 2)] []
  t_lUnTwice_21)))
def t_lUnTwice : T :=
  .lets [.call 18 [.v 0, .v 1, .v 2, .v 3, .v 4, .v 5] 0, .call 18 [.v 0, .v 1, .v 2, .v 3, .v 4, .v 5] 1, .call 18 [.v 0, .v 1, .v 2, .v 3, .v 4, .v 5] 2] [] (.lets [.call 20 [] 0]
  [] (.lets [.not (.v 14)] [] t_lUnTwice_22))
theorem m_lUnTwice : Meets Try.prog sp_lUnTwice 13 ⟨[.one, .agg 3, .one, .one, .agg 3, .one, .one], [(false, [.scal])], true⟩ := by
  refine meets_fin (sp := (spsOf [(18, sp_unApply), (20, sp_lThere)])) (sigs := sigsA) (cut := []) (hints := []) (fns := [fnOf 53 Try.f53 [] [], fnOf 97 Try.f97 [⟨2, [.t 4, .t 8]⟩] [], fnOf 54 Try.f54 [] [], fnOf 55 Try.f55 [] [], fnOf 56 Try.f56 [] []]) (dep := 7) (pool := 1000) (fn := Try.f13) (t := t_lUnTwice) (by kernel_rfl) (by kernel_rfl) (by kernel_rfl) ?_ ?_ ?_
  · exact (fnOk_cons (fn := Try.f53) (by kernel_rfl) (by kernel_rfl) (by kernel_rfl) (by kernel_rfl) (by kernel_rfl) (fnOk_cons (fn := Try.f97) (by kernel_rfl) (by kernel_rfl) (by kernel_rfl) (by kernel_rfl) (by kernel_rfl) (fnOk_cons (fn := Try.f54) (by kernel_rfl) (by kernel_rfl) (by kernel_rfl) (by kernel_rfl) (by kernel_rfl) (fnOk_cons (fn := Try.f55) (by kernel_rfl) (by kernel_rfl) (by kernel_rfl) (by kernel_rfl) (by kernel_rfl) (fnOk_cons (fn := Try.f56) (by kernel_rfl) (by kernel_rfl) (by kernel_rfl) (by kernel_rfl) (by kernel_rfl) fnOk_nil)))))
  · exact (sig_of (L := [(18, sp_unApply), (20, sp_lThere)]) ⟨sig_at rfl m_unApply, sig_at rfl m_lThere, trivial⟩)
  · rintro ds rs - h
    obtain ⟨⟨l, t, nm, ht, u, ot, la⟩, -, rfl, rfl⟩ := spD_some h
    clear h
    refine ⟨⟨t.ins.length + u.ins.length + 1, ?_⟩, scalOk_1 rfl⟩
    show den _ _ t_lUnTwice [.l 6 (l.map eCoin), I t.height, .l 3 (t.ins.map eIn), .l 2 (t.outs.map eOut), I nm, I ht, I u.height, .l 3 (u.ins.map eIn), .l 2 (u.outs.map eOut), I ot, I la] [] = ret true
    unfold t_lUnTwice
    repeat' (first | refine den_let1 (by first | exact dx_eql rfl rfl | exact dx_neq rfl rfl | exact dx_lss rfl rfl | exact dx_gtr rfl rfl | exact dx_geq rfl rfl | exact dx_leq rfl rfl | exact dx_len rfl | exact den_add rfl rfl (by omega) | exact den_sub rfl rfl (by omega) | exact dx_idx rfl rfl (by omega) (by first | assumption | exact hx) rfl | exact den_call rfl (sp_unApply_at l t nm ht) rfl | exact den_call rfl (sp_lThere_at) rfl | exact dx_not rfl | exact dx_len0 rfl | exact dx_eqS rfl rfl | exact dx_neS rfl rfl | exact dx_eqB rfl rfl | exact dx_neB rfl rfl | exact dx_eqP rfl rfl rfl rfl | exact dx_neP rfl rfl rfl rfl | exact dx_neg rfl (by omega) | exact dx_cutl rfl rfl (by omega) (by omega) (by assumption) | exact den_mk (r := [[I _]]) rfl rfl (by simp) | exact dx_sel rfl rfl (by omega) rfl | exact dx_mn rfl rfl | exact dx_slen rfl | exact dx_app1 (fun _ => rfl) rfl rfl (by first | omega | (simp only [List.length_append, List.length_cons, List.length_nil]; omega))) ?_ | refine den_ck (by exact dx_inr rfl rfl (by omega) (by omega)) ?_ | refine den_lets (by first | exact dx_el rfl rfl (by omega) (by first | assumption | exact hx) (by rfl) | exact dx_calls rfl (sp_unApply_at l t nm ht) (by rfl) | exact dx_calls rfl (sp_lThere_at) (by rfl) | exact denXs_cons (dx_idx rfl rfl (by omega) (by first | assumption | exact hx) rfl) (denXs_cons (dx_idx rfl rfl (by omega) (by first | assumption | exact hx) rfl) denXs_nil)) ?_ (by simp only [eCoin, eTx, eIn, eOut, eOp, ePoint, eInt, eStr, eBlock, eTree, eBook, eUndo, eBool, List.cons_append, List.nil_append]; try exact rfl) | exact den_ret rfl rfl | refine den_ifR rfl (by with_reducible rfl) (fun h => ?_) (fun h => ?_) | refine den_ifB rfl (by with_reducible rfl) (fun h => ?_) (fun h => ?_) | refine den_ifC rfl (by with_reducible rfl) (fun h => ?_) (fun h => ?_) | refine den_ifBn rfl (by with_reducible rfl) (fun h => ?_) (fun h => ?_) | refine den_ifF rfl (by with_reducible rfl) (fun h => ?_) (fun h => ?_) | refine den_ifFn rfl (by with_reducible rfl) (fun h => ?_) (fun h => ?_) | refine den_ifAndOr rfl (by with_reducible rfl) (fun h => ?_) (fun h => ?_) | refine den_ifOrAnd rfl (by with_reducible rfl) (fun h => ?_) (fun h => ?_) | refine den_ifAnd rfl (by with_reducible rfl) (fun h => ?_) (fun h => ?_) | refine den_ifOr rfl (by with_reducible rfl) (fun h => ?_) (fun h => ?_) | refine den_band rfl (by with_reducible rfl) (fun h => ?_) (fun h => ?_) | refine den_bor rfl (by with_reducible rfl) (fun h => ?_) (fun h => ?_) | refine den_T rfl (by first | assumption | omega) ?_ | refine den_F rfl (by first | assumption | omega) ?_ | refine den_t rfl ?_ | refine den_f rfl ?_ | refine den_sp rfl (fun h => ?_) (fun h => ?_))
    have h0 : (applyOf l t nm ht).2.2 = 0 := Decidable.not_not.1 (by assumption)
    have hne : ¬ (t.ins.length : Int) = 0 := by assumption
    have hti := ins_le h0
    (refine den_range (fun (_ : Unit) k => [I 0, I k]) (fun (_ : Unit) _ (_ : List In) => true) (fun _ k => ∀ x ∈ t.ins.take k, x.p.tx ≠ nm) () t.ins ?_ ?_ ?_ ?_ ?_; rfl; exact (fun x hx => by simp at hx); omega)
    · rintro _ k x r hx hd hk hI again hag
      repeat' (first | refine den_let1 (by first | exact dx_eql rfl rfl | exact dx_neq rfl rfl | exact dx_lss rfl rfl | exact dx_gtr rfl rfl | exact dx_geq rfl rfl | exact dx_leq rfl rfl | exact dx_len rfl | exact den_add rfl rfl (by omega) | exact den_sub rfl rfl (by omega) | exact dx_idx rfl rfl (by omega) (by first | assumption | exact hx) rfl | exact den_call rfl (sp_lThere_at) rfl | exact dx_not rfl | exact dx_len0 rfl | exact dx_eqS rfl rfl | exact dx_neS rfl rfl | exact dx_eqB rfl rfl | exact dx_neB rfl rfl | exact dx_eqP rfl rfl rfl rfl | exact dx_neP rfl rfl rfl rfl | exact dx_neg rfl (by omega) | exact dx_cutl rfl rfl (by omega) (by omega) (by assumption) | exact den_mk (r := [[I _]]) rfl rfl (by simp) | exact dx_sel rfl rfl (by omega) rfl | exact dx_mn rfl rfl | exact dx_slen rfl | exact dx_app1 (fun _ => rfl) rfl rfl (by first | omega | (simp only [List.length_append, List.length_cons, List.length_nil]; omega))) ?_ | refine den_ck (by exact dx_inr rfl rfl (by omega) (by omega)) ?_ | refine den_lets (by first | exact dx_el rfl rfl (by omega) (by first | assumption | exact hx) (by rfl) | exact dx_calls rfl (sp_lThere_at) (by rfl) | exact denXs_cons (dx_idx rfl rfl (by omega) (by first | assumption | exact hx) rfl) (denXs_cons (dx_idx rfl rfl (by omega) (by first | assumption | exact hx) rfl) denXs_nil)) ?_ (by simp only [eCoin, eTx, eIn, eOut, eOp, ePoint, eInt, eStr, eBlock, eTree, eBook, eUndo, eBool, List.cons_append, List.nil_append]; try exact rfl) | exact den_ret rfl rfl | refine den_ifR rfl (by with_reducible rfl) (fun h => ?_) (fun h => ?_) | refine den_ifB rfl (by with_reducible rfl) (fun h => ?_) (fun h => ?_) | refine den_ifC rfl (by with_reducible rfl) (fun h => ?_) (fun h => ?_) | refine den_ifBn rfl (by with_reducible rfl) (fun h => ?_) (fun h => ?_) | refine den_ifF rfl (by with_reducible rfl) (fun h => ?_) (fun h => ?_) | refine den_ifFn rfl (by with_reducible rfl) (fun h => ?_) (fun h => ?_) | refine den_ifAndOr rfl (by with_reducible rfl) (fun h => ?_) (fun h => ?_) | refine den_ifOrAnd rfl (by with_reducible rfl) (fun h => ?_) (fun h => ?_) | refine den_ifAnd rfl (by with_reducible rfl) (fun h => ?_) (fun h => ?_) | refine den_ifOr rfl (by with_reducible rfl) (fun h => ?_) (fun h => ?_) | refine den_band rfl (by with_reducible rfl) (fun h => ?_) (fun h => ?_) | refine den_bor rfl (by with_reducible rfl) (fun h => ?_) (fun h => ?_) | refine den_T rfl (by first | assumption | omega) ?_ | refine den_F rfl (by first | assumption | omega) ?_ | refine den_t rfl ?_ | refine den_f rfl ?_ | refine den_sp rfl (fun h => ?_) (fun h => ?_))
      exact den_again rfl rfl (hag () (all_take hI hx (by assumption)))
    · rintro _ hI again
      rw [List.take_length] at hI
      have hgone := twice_gone h0 hI
      have hA : ¬ (applyOf (applyOf l t nm ht).1 t ot la).2.2 = 0 := fun h1 => by
        cases hti : t.ins with
        | nil => rw [hti] at hne; exact hne rfl
        | cons x xs =>
          have hx : x ∈ t.ins := by rw [hti]; exact List.mem_cons_self ..
          obtain ⟨c, hc, he⟩ := spent_there h1 x hx
          exact hgone x hx c hc he
      have hB : (applyOf (applyOf l t nm ht).1 u ot la).2.2 = 0 → ∀ x ∈ u.ins, ∀ y ∈ t.ins, ¬ y.p = x.p := fun h1 x hx y hy e => by
        obtain ⟨c, hc, he⟩ := spent_there h1 x hx
        exact hgone y hy c hc (he.trans e.symm)
      generalize (applyOf l t nm ht).1 = m at *
      repeat' (first | refine den_let1 (by first | exact dx_eql rfl rfl | exact dx_neq rfl rfl | exact dx_lss rfl rfl | exact dx_gtr rfl rfl | exact dx_geq rfl rfl | exact dx_leq rfl rfl | exact dx_len rfl | exact den_add rfl rfl (by omega) | exact den_sub rfl rfl (by omega) | exact dx_idx rfl rfl (by omega) (by first | assumption | exact hx) rfl | exact den_call rfl (sp_unApply_at m t ot la) rfl | exact den_call rfl (sp_unApply_at m u ot la) rfl | exact den_call rfl (sp_lThere_at) rfl | exact dx_not rfl | exact dx_len0 rfl | exact dx_eqS rfl rfl | exact dx_neS rfl rfl | exact dx_eqB rfl rfl | exact dx_neB rfl rfl | exact dx_eqP rfl rfl rfl rfl | exact dx_neP rfl rfl rfl rfl | exact dx_neg rfl (by omega) | exact dx_cutl rfl rfl (by omega) (by omega) (by assumption) | exact den_mk (r := [[I _]]) rfl rfl (by simp) | exact dx_sel rfl rfl (by omega) rfl | exact dx_mn rfl rfl | exact dx_slen rfl | exact dx_app1 (fun _ => rfl) rfl rfl (by first | omega | (simp only [List.length_append, List.length_cons, List.length_nil]; omega))) ?_ | refine den_ck (by exact dx_inr rfl rfl (by omega) (by omega)) ?_ | refine den_lets (by first | exact dx_el rfl rfl (by omega) (by first | assumption | exact hx) (by rfl) | exact dx_calls rfl (sp_unApply_at m t ot la) (by rfl) | exact dx_calls rfl (sp_unApply_at m u ot la) (by rfl) | exact dx_calls rfl (sp_lThere_at) (by rfl) | exact denXs_cons (dx_idx rfl rfl (by omega) (by first | assumption | exact hx) rfl) (denXs_cons (dx_idx rfl rfl (by omega) (by first | assumption | exact hx) rfl) denXs_nil)) ?_ (by simp only [eCoin, eTx, eIn, eOut, eOp, ePoint, eInt, eStr, eBlock, eTree, eBook, eUndo, eBool, List.cons_append, List.nil_append]; try exact rfl) | exact den_ret rfl rfl | refine den_ifR rfl (by with_reducible rfl) (fun h => ?_) (fun h => ?_) | refine den_ifB rfl (by with_reducible rfl) (fun h => ?_) (fun h => ?_) | refine den_ifC rfl (by with_reducible rfl) (fun h => ?_) (fun h => ?_) | refine den_ifBn rfl (by with_reducible rfl) (fun h => ?_) (fun h => ?_) | refine den_ifF rfl (by with_reducible rfl) (fun h => ?_) (fun h => ?_) | refine den_ifFn rfl (by with_reducible rfl) (fun h => ?_) (fun h => ?_) | refine den_ifAndOr rfl (by with_reducible rfl) (fun h => ?_) (fun h => ?_) | refine den_ifOrAnd rfl (by with_reducible rfl) (fun h => ?_) (fun h => ?_) | refine den_ifAnd rfl (by with_reducible rfl) (fun h => ?_) (fun h => ?_) | refine den_ifOr rfl (by with_reducible rfl) (fun h => ?_) (fun h => ?_) | refine den_band rfl (by with_reducible rfl) (fun h => ?_) (fun h => ?_) | refine den_bor rfl (by with_reducible rfl) (fun h => ?_) (fun h => ?_) | refine den_T rfl (by first | assumption | omega) ?_ | refine den_F rfl (by first | assumption | omega) ?_ | refine den_t rfl ?_ | refine den_f rfl ?_ | refine den_sp rfl (fun h => ?_) (fun h => ?_))
      have hB := hB (by assumption)
      have hui := ins_le (l := m) (t := u) (nm := ot) (h := la) (by assumption)
      (refine den_range (fun (_ : Unit) k => [I 0, I k]) (fun (_ : Unit) _ (_ : List In) => true) (fun _ k => True) () u.ins ?_ ?_ ?_ ?_ ?_; rfl; exact trivial; omega)
      · rintro _ k x r hx hd hk - again hag
        have hxm := List.mem_of_getElem? hx
        repeat' (first | refine den_let1 (by first | exact dx_eql rfl rfl | exact dx_neq rfl rfl | exact dx_lss rfl rfl | exact dx_gtr rfl rfl | exact dx_geq rfl rfl | exact dx_leq rfl rfl | exact dx_len rfl | exact den_add rfl rfl (by omega) | exact den_sub rfl rfl (by omega) | exact dx_idx rfl rfl (by omega) (by first | assumption | exact hx) rfl | exact dx_not rfl | exact dx_len0 rfl | exact dx_eqS rfl rfl | exact dx_neS rfl rfl | exact dx_eqB rfl rfl | exact dx_neB rfl rfl | exact dx_eqP rfl rfl rfl rfl | exact dx_neP rfl rfl rfl rfl | exact dx_neg rfl (by omega) | exact dx_cutl rfl rfl (by omega) (by omega) (by assumption) | exact den_mk (r := [[I _]]) rfl rfl (by simp) | exact dx_sel rfl rfl (by omega) rfl | exact dx_mn rfl rfl | exact dx_slen rfl | exact dx_app1 (fun _ => rfl) rfl rfl (by first | omega | (simp only [List.length_append, List.length_cons, List.length_nil]; omega))) ?_ | refine den_ck (by exact dx_inr rfl rfl (by omega) (by omega)) ?_ | refine den_lets (by first | exact dx_el rfl rfl (by omega) (by first | assumption | exact hx) (by rfl) | exact denXs_cons (dx_idx rfl rfl (by omega) (by first | assumption | exact hx) rfl) (denXs_cons (dx_idx rfl rfl (by omega) (by first | assumption | exact hx) rfl) denXs_nil)) ?_ (by simp only [eCoin, eTx, eIn, eOut, eOp, ePoint, eInt, eStr, eBlock, eTree, eBook, eUndo, eBool, List.cons_append, List.nil_append]; try exact rfl) | exact den_ret rfl rfl | refine den_ifR rfl (by with_reducible rfl) (fun h => ?_) (fun h => ?_) | refine den_ifB rfl (by with_reducible rfl) (fun h => ?_) (fun h => ?_) | refine den_ifC rfl (by with_reducible rfl) (fun h => ?_) (fun h => ?_) | refine den_ifBn rfl (by with_reducible rfl) (fun h => ?_) (fun h => ?_) | refine den_ifF rfl (by with_reducible rfl) (fun h => ?_) (fun h => ?_) | refine den_ifFn rfl (by with_reducible rfl) (fun h => ?_) (fun h => ?_) | refine den_ifAndOr rfl (by with_reducible rfl) (fun h => ?_) (fun h => ?_) | refine den_ifOrAnd rfl (by with_reducible rfl) (fun h => ?_) (fun h => ?_) | refine den_ifAnd rfl (by with_reducible rfl) (fun h => ?_) (fun h => ?_) | refine den_ifOr rfl (by with_reducible rfl) (fun h => ?_) (fun h => ?_) | refine den_band rfl (by with_reducible rfl) (fun h => ?_) (fun h => ?_) | refine den_bor rfl (by with_reducible rfl) (fun h => ?_) (fun h => ?_) | refine den_T rfl (by first | assumption | omega) ?_ | refine den_F rfl (by first | assumption | omega) ?_ | refine den_t rfl ?_ | refine den_f rfl ?_ | refine den_sp rfl (fun h => ?_) (fun h => ?_))
        (refine den_range (fun (_ : Unit) k => [I 0, I k]) (fun (_ : Unit) _ (_ : List In) => true) (fun _ k => True) () t.ins ?_ ?_ ?_ ?_ ?_; rfl; exact trivial; omega)
        · rintro _ k y r hx hd hk - again' hag'
          have hno := hB x hxm y (List.mem_of_getElem? hx)
          repeat' (first | refine den_let1 (by first | exact dx_eql rfl rfl | exact dx_neq rfl rfl | exact dx_lss rfl rfl | exact dx_gtr rfl rfl | exact dx_geq rfl rfl | exact dx_leq rfl rfl | exact dx_len rfl | exact den_add rfl rfl (by omega) | exact den_sub rfl rfl (by omega) | exact dx_idx rfl rfl (by omega) (by first | assumption | exact hx) rfl | exact dx_not rfl | exact dx_len0 rfl | exact dx_eqS rfl rfl | exact dx_neS rfl rfl | exact dx_eqB rfl rfl | exact dx_neB rfl rfl | exact dx_eqP rfl rfl rfl rfl | exact dx_neP rfl rfl rfl rfl | exact dx_neg rfl (by omega) | exact dx_cutl rfl rfl (by omega) (by omega) (by assumption) | exact den_mk (r := [[I _]]) rfl rfl (by simp) | exact dx_sel rfl rfl (by omega) rfl | exact dx_mn rfl rfl | exact dx_slen rfl | exact dx_app1 (fun _ => rfl) rfl rfl (by first | omega | (simp only [List.length_append, List.length_cons, List.length_nil]; omega))) ?_ | refine den_ck (by exact dx_inr rfl rfl (by omega) (by omega)) ?_ | refine den_lets (by first | exact dx_el rfl rfl (by omega) (by first | assumption | exact hx) (by rfl) | exact denXs_cons (dx_idx rfl rfl (by omega) (by first | assumption | exact hx) rfl) (denXs_cons (dx_idx rfl rfl (by omega) (by first | assumption | exact hx) rfl) denXs_nil)) ?_ (by simp only [eCoin, eTx, eIn, eOut, eOp, ePoint, eInt, eStr, eBlock, eTree, eBook, eUndo, eBool, List.cons_append, List.nil_append]; try exact rfl) | exact den_ret rfl rfl | refine den_ifR rfl (by with_reducible rfl) (fun h => ?_) (fun h => ?_) | refine den_ifB rfl (by with_reducible rfl) (fun h => ?_) (fun h => ?_) | refine den_ifC rfl (by with_reducible rfl) (fun h => ?_) (fun h => ?_) | refine den_ifBn rfl (by with_reducible rfl) (fun h => ?_) (fun h => ?_) | refine den_ifF rfl (by with_reducible rfl) (fun h => ?_) (fun h => ?_) | refine den_ifFn rfl (by with_reducible rfl) (fun h => ?_) (fun h => ?_) | refine den_ifAndOr rfl (by with_reducible rfl) (fun h => ?_) (fun h => ?_) | refine den_ifOrAnd rfl (by with_reducible rfl) (fun h => ?_) (fun h => ?_) | refine den_ifAnd rfl (by with_reducible rfl) (fun h => ?_) (fun h => ?_) | refine den_ifOr rfl (by with_reducible rfl) (fun h => ?_) (fun h => ?_) | refine den_band rfl (by with_reducible rfl) (fun h => ?_) (fun h => ?_) | refine den_bor rfl (by with_reducible rfl) (fun h => ?_) (fun h => ?_) | refine den_T rfl (by first | assumption | omega) ?_ | refine den_F rfl (by first | assumption | omega) ?_ | refine den_t rfl ?_ | refine den_f rfl ?_ | refine den_sp rfl (fun h => ?_) (fun h => ?_))
          exact den_again rfl rfl (hag' () trivial)
        · rintro _ - again'
          repeat' (first | refine den_let1 (by first | exact dx_eql rfl rfl | exact dx_neq rfl rfl | exact dx_lss rfl rfl | exact dx_gtr rfl rfl | exact dx_geq rfl rfl | exact dx_leq rfl rfl | exact dx_len rfl | exact den_add rfl rfl (by omega) | exact den_sub rfl rfl (by omega) | exact dx_idx rfl rfl (by omega) (by first | assumption | exact hx) rfl | exact dx_not rfl | exact dx_len0 rfl | exact dx_eqS rfl rfl | exact dx_neS rfl rfl | exact dx_eqB rfl rfl | exact dx_neB rfl rfl | exact dx_eqP rfl rfl rfl rfl | exact dx_neP rfl rfl rfl rfl | exact dx_neg rfl (by omega) | exact dx_cutl rfl rfl (by omega) (by omega) (by assumption) | exact den_mk (r := [[I _]]) rfl rfl (by simp) | exact dx_sel rfl rfl (by omega) rfl | exact dx_mn rfl rfl | exact dx_slen rfl | exact dx_app1 (fun _ => rfl) rfl rfl (by first | omega | (simp only [List.length_append, List.length_cons, List.length_nil]; omega))) ?_ | refine den_ck (by exact dx_inr rfl rfl (by omega) (by omega)) ?_ | refine den_lets (by first | exact dx_el rfl rfl (by omega) (by first | assumption | exact hx) (by rfl) | exact denXs_cons (dx_idx rfl rfl (by omega) (by first | assumption | exact hx) rfl) (denXs_cons (dx_idx rfl rfl (by omega) (by first | assumption | exact hx) rfl) denXs_nil)) ?_ (by simp only [eCoin, eTx, eIn, eOut, eOp, ePoint, eInt, eStr, eBlock, eTree, eBook, eUndo, eBool, List.cons_append, List.nil_append]; try exact rfl) | exact den_ret rfl rfl | refine den_ifR rfl (by with_reducible rfl) (fun h => ?_) (fun h => ?_) | refine den_ifB rfl (by with_reducible rfl) (fun h => ?_) (fun h => ?_) | refine den_ifC rfl (by with_reducible rfl) (fun h => ?_) (fun h => ?_) | refine den_ifBn rfl (by with_reducible rfl) (fun h => ?_) (fun h => ?_) | refine den_ifF rfl (by with_reducible rfl) (fun h => ?_) (fun h => ?_) | refine den_ifFn rfl (by with_reducible rfl) (fun h => ?_) (fun h => ?_) | refine den_ifAndOr rfl (by with_reducible rfl) (fun h => ?_) (fun h => ?_) | refine den_ifOrAnd rfl (by with_reducible rfl) (fun h => ?_) (fun h => ?_) | refine den_ifAnd rfl (by with_reducible rfl) (fun h => ?_) (fun h => ?_) | refine den_ifOr rfl (by with_reducible rfl) (fun h => ?_) (fun h => ?_) | refine den_band rfl (by with_reducible rfl) (fun h => ?_) (fun h => ?_) | refine den_bor rfl (by with_reducible rfl) (fun h => ?_) (fun h => ?_) | refine den_T rfl (by first | assumption | omega) ?_ | refine den_F rfl (by first | assumption | omega) ?_ | refine den_t rfl ?_ | refine den_f rfl ?_ | refine den_sp rfl (fun h => ?_) (fun h => ?_))
          exact den_again rfl rfl (hag () trivial)
      · rintro _ - again
        repeat' (first | refine den_let1 (by first | exact dx_eql rfl rfl | exact dx_neq rfl rfl | exact dx_lss rfl rfl | exact dx_gtr rfl rfl | exact dx_geq rfl rfl | exact dx_leq rfl rfl | exact dx_len rfl | exact den_add rfl rfl (by omega) | exact den_sub rfl rfl (by omega) | exact dx_idx rfl rfl (by omega) (by first | assumption | exact hx) rfl | exact dx_not rfl | exact dx_len0 rfl | exact dx_eqS rfl rfl | exact dx_neS rfl rfl | exact dx_eqB rfl rfl | exact dx_neB rfl rfl | exact dx_eqP rfl rfl rfl rfl | exact dx_neP rfl rfl rfl rfl | exact dx_neg rfl (by omega) | exact dx_cutl rfl rfl (by omega) (by omega) (by assumption) | exact den_mk (r := [[I _]]) rfl rfl (by simp) | exact dx_sel rfl rfl (by omega) rfl | exact dx_mn rfl rfl | exact dx_slen rfl | exact dx_app1 (fun _ => rfl) rfl rfl (by first | omega | (simp only [List.length_append, List.length_cons, List.length_nil]; omega))) ?_ | refine den_ck (by exact dx_inr rfl rfl (by omega) (by omega)) ?_ | refine den_lets (by first | exact dx_el rfl rfl (by omega) (by first | assumption | exact hx) (by rfl) | exact denXs_cons (dx_idx rfl rfl (by omega) (by first | assumption | exact hx) rfl) (denXs_cons (dx_idx rfl rfl (by omega) (by first | assumption | exact hx) rfl) denXs_nil)) ?_ (by simp only [eCoin, eTx, eIn, eOut, eOp, ePoint, eInt, eStr, eBlock, eTree, eBook, eUndo, eBool, List.cons_append, List.nil_append]; try exact rfl) | exact den_ret rfl rfl | refine den_ifR rfl (by with_reducible rfl) (fun h => ?_) (fun h => ?_) | refine den_ifB rfl (by with_reducible rfl) (fun h => ?_) (fun h => ?_) | refine den_ifC rfl (by with_reducible rfl) (fun h => ?_) (fun h => ?_) | refine den_ifBn rfl (by with_reducible rfl) (fun h => ?_) (fun h => ?_) | refine den_ifF rfl (by with_reducible rfl) (fun h => ?_) (fun h => ?_) | refine den_ifFn rfl (by with_reducible rfl) (fun h => ?_) (fun h => ?_) | refine den_ifAndOr rfl (by with_reducible rfl) (fun h => ?_) (fun h => ?_) | refine den_ifOrAnd rfl (by with_reducible rfl) (fun h => ?_) (fun h => ?_) | refine den_ifAnd rfl (by with_reducible rfl) (fun h => ?_) (fun h => ?_) | refine den_ifOr rfl (by with_reducible rfl) (fun h => ?_) (fun h => ?_) | refine den_band rfl (by with_reducible rfl) (fun h => ?_) (fun h => ?_) | refine den_bor rfl (by with_reducible rfl) (fun h => ?_) (fun h => ?_) | refine den_T rfl (by first | assumption | omega) ?_ | refine den_F rfl (by first | assumption | omega) ?_ | refine den_t rfl ?_ | refine den_f rfl ?_ | refine den_sp rfl (fun h => ?_) (fun h => ?_))
theorem unspentTwice_walk (l : List (Coin)) (A_l : Option Addr) (n_l c_l : Nat) (t : Tx) (c_t : List Value) (nm : Int) (ht : Int) (u : Tx) (c_u : List Value) (ot : Int) (la : Int) (w : World) (h_l : Rds shCoin w (Lt w.heap.size) l A_l n_l c_l) (h_t : shTx.rep w (Lt w.heap.size) t c_t) (nm_0 : -9223372036854775808 ≤ nm) (nm_1 : nm ≤ 9223372036854775807) (ht_0 : -9223372036854775808 ≤ ht) (ht_1 : ht ≤ 9223372036854775807) (h_u : shTx.rep w (Lt w.heap.size) u c_u) (ot_0 : -9223372036854775808 ≤ ot) (ot_1 : ot ≤ 9223372036854775807) (la_0 : -9223372036854775808 ≤ la) (la_1 : la ≤ 9223372036854775807) :
    Calls Try.prog 13 #[.slice A_l n_l c_l, .agg c_t.toArray, .int .i64 nm, .int .i64 ht, .agg c_u.toArray, .int .i64 ot, .int .i64 la] w fun e w' => e = .returned (.bool true) ∧ Below w.heap.size w w' :=
  meets_calls (F := Lt w.heap.size) (us := [.slice A_l n_l c_l, .agg c_t.toArray, .int .i64 nm, .int .i64 ht, .agg c_u.toArray, .int .i64 ot, .int .i64 la]) rfl (en_of (fn := Try.f13) (by kernel_rfl) (by kernel_rfl) (by kernel_rfl)) m_lUnTwice (fun _ h => h) (spD_at (f := fun _ => true) (l, t, nm, ht, u, ot, la) trivial)
    (pks_mk_one (rds_rep she_coin h_l) (pks_mk_agg (d1 := eTx t) (she_tx.to h_t) rfl (pks_mk_one (.i _ _ (wrap_i64 ⟨nm_0, nm_1⟩)) (pks_mk_one (.i _ _ (wrap_i64 ⟨ht_0, ht_1⟩)) (pks_mk_agg (d1 := eTx u) (she_tx.to h_u) rfl (pks_mk_one (.i _ _ (wrap_i64 ⟨ot_0, ot_1⟩)) (pks_mk_one (.i _ _ (wrap_i64 ⟨la_0, la_1⟩)) pks_mk_nil)))))))
end Go.Proofs.Ytnnbnjanekibpaa
namespace Go.Proofs.Ytnnbnjanekibpaa
open Go.RowKit
set_option linter.unusedVariables false
set_option linter.unusedSimpArgs false
theorem take_run {ρ : Type} {nm h : Int} {rw : Bool} {bad : Int → ρ} {K : List Coin → ρ} : ∀ {os : List Out} {r m : List Coin} {i : Nat}, SortedC r → Brought nm h rw r i os m → takeK nm bad K m i os = K r
  | [], r, m, i, hr, hb => by cases hb; rfl
  | o :: os, r, m, i, hr, hb => by
    have B := hb.as hr
    have hmem : outCoin nm h rw i o ∈ m := (B.mem _).2 (.inr ⟨0, o, rfl, rfl⟩)
    have hp : hasP m ⟨nm, i⟩ = true := hasP_mem.2 ⟨_, hmem, rfl⟩
    have hat : m[posOf m ⟨nm, i⟩]? = some (outCoin nm h rw i o) := at_pos B.sorted hmem
    have hfree : ∀ c ∈ r, ∀ j, j < os.length → c.p ≠ ⟨nm, ((i + 1 + j : Nat) : Int)⟩ := fun c hc j hj => by
      have := B.free c hc (j + 1) (by simpa using hj)
      rwa [show i + (j + 1) = i + 1 + j by omega] at this
    obtain ⟨m2, hb2⟩ := Brought.of (nm := nm) (h := h) (rw := rw) (os := os) (r := r) (i := i + 1) hr hfree
    have B2 := hb2.as hr
    have he : m.take (posOf m ⟨nm, i⟩) ++ m.drop (posOf m ⟨nm, i⟩ + 1) = m2 := by
      refine sorted_ext (sorted_cut B.sorted _) B2.sorted fun c => ?_
      rw [cut_mem B.sorted hat, B.mem, B2.mem]
      constructor
      · rintro ⟨h1 | ⟨j, q, h1, rfl⟩, h2⟩
        · exact .inl h1
        · cases j with
          | zero => exact absurd rfl h2
          | succ j => exact .inr ⟨j, q, by simpa using h1, by rw [show i + 1 + j = i + (j + 1) by omega]⟩
      · rintro (h1 | ⟨j, q, h1, rfl⟩)
        · exact ⟨.inl h1, by have := B.free c h1 0 (by simp); exact this⟩
        · refine ⟨.inr ⟨j + 1, q, by simpa using h1, by rw [show i + 1 + j = i + (j + 1) by omega]⟩, ?_⟩
          simp only [outCoin, ne_eq, Point.mk.injEq, not_and]
          intro _
          omega
    rw [takeK, if_pos hp, hat]
    simp only [Option.getD_some]
    rw [if_pos (by simp [outCoin]), he]
    exact take_run hr hb2
theorem back_run {ρ : Type} {ins : List In} {bad : Int → ρ} {K : List Coin → ρ} : ∀ {cs r : List Coin} {k : Nat}, SortedC r → (∀ c ∈ cs, ∀ d ∈ r, d.p ≠ c.p) → cs.Pairwise (fun c d => c.p ≠ d.p) → (∀ (j : Nat) (c : Coin), cs[j]? = some c → ∃ x, ins[k + j]? = some x ∧ x.p = c.p) → ∃ q, backK ins bad K r k cs = K q ∧ SortedC q ∧ ∀ c, c ∈ q ↔ c ∈ r ∨ c ∈ cs
  | [], r, k, hr, _, _, _ => ⟨r, rfl, hr, fun c => by simp⟩
  | c :: cs, r, k, hr, hd, hp, hi => by
    have hn : hasP r c.p = false := hasP_not.2 fun d hd' => hd c (List.mem_cons_self ..) d hd'
    obtain ⟨x, hx, hxp⟩ := hi 0 c rfl
    have hp' := List.pairwise_cons.1 hp
    obtain ⟨q, h1, h2, h3⟩ := back_run (bad := bad) (K := K) (cs := cs) (r := r.take (posOf r c.p) ++ [c] ++ r.drop (posOf r c.p)) (k := k + 1) (sorted_put hr hn) (fun e he d hd' => by
      rcases put_mem.1 hd' with rfl | hd'
      · exact hp'.1 e he
      · exact hd e (List.mem_cons_of_mem _ he) d hd') hp'.2 fun j e he => by
        obtain ⟨y, hy, hyp⟩ := hi (j + 1) e (by simpa using he)
        exact ⟨y, by rwa [show k + (j + 1) = k + 1 + j by omega] at hy, hyp⟩
    refine ⟨q, ?_, h2, fun e => ?_⟩
    · rw [backK, if_neg (by simp [hn]), show k = k + 0 from rfl, hx]
      simp only [Option.getD_some]
      rw [if_neg (by simp [hxp])]
      exact h1
    · rw [h3, put_mem, List.mem_cons]
      constructor
      · rintro ((rfl | h) | h)
        · exact .inr (.inl rfl)
        · exact .inl h
        · exact .inr (.inr h)
      · rintro (h | rfl | h)
        · exact .inl (.inr h)
        · exact .inl (.inl rfl)
        · exact .inr h
theorem SpentAs.apart' {h : Int} {l : List Coin} {xs : List In} {r cs : List Coin} (S : SpentAs h l xs r cs) : cs.Pairwise fun c d => c.p ≠ d.p := by
  rw [List.pairwise_iff_getElem]
  intro i j hi hj hij
  have hl := S.len
  obtain ⟨c, h1, _, h2⟩ := S.fine i xs[i] (List.getElem?_eq_getElem (by omega))
  obtain ⟨d, h3, _, h4⟩ := S.fine j xs[j] (List.getElem?_eq_getElem (by omega))
  rw [List.getElem?_eq_getElem hi] at h1
  rw [List.getElem?_eq_getElem hj] at h3
  injection h1 with h1
  injection h3 with h3
  rw [h1, h3, h2.p, h4.p]
  exact List.pairwise_iff_getElem.1 S.apart i j (by omega) (by omega) hij
theorem SpentAs.from {h : Int} {l : List Coin} {xs : List In} {r cs : List Coin} (S : SpentAs h l xs r cs) {c : Coin} (hc : c ∈ cs) : c ∈ l ∧ ∃ x ∈ xs, x.p = c.p := by
  obtain ⟨i, hi, rfl⟩ := List.getElem_of_mem hc
  have hl := S.len
  obtain ⟨c, h1, h2, h3⟩ := S.fine i xs[i] (List.getElem?_eq_getElem (by omega))
  rw [List.getElem?_eq_getElem hi] at h1
  injection h1 with h1
  rw [h1]
  exact ⟨h2, _, List.getElem_mem _, h3.p.symm⟩
theorem SpentAs.all {h : Int} {l : List Coin} {xs : List In} {r cs : List Coin} (S : SpentAs h l xs r cs) (hs : SortedC l) {c : Coin} : c ∈ l ↔ c ∈ r ∨ c ∈ cs := by
  constructor
  · intro hc
    by_cases hx : ∃ x ∈ xs, x.p = c.p
    · obtain ⟨x, hx, he⟩ := hx
      obtain ⟨i, hi⟩ := List.getElem?_of_mem hx
      obtain ⟨d, h1, h2, h3⟩ := S.fine i x hi
      have : d = c := sorted_uniq hs h2 hc (h3.p.trans he)
      subst this
      exact .inr (List.mem_of_getElem? h1)
    · exact .inl ((S.mem c).2 ⟨hc, fun x hx' he => hx ⟨x, hx', he⟩⟩)
  · rintro (hc | hc)
    · exact ((S.mem c).1 hc).1
    · exact (S.from hc).1
theorem Done.spentAs {l : List Coin} {t : Tx} {nm h : Int} {r s m : List Coin} (d : Done l t nm h r s m) : SpentAs h l t.ins r s := by
  obtain ⟨cs, e, S⟩ := d.spent.as d.ok.sorted
  rw [List.nil_append] at e
  exact e ▸ S
theorem Done.broughtAs {l : List Coin} {t : Tx} {nm h : Int} {r s m : List Coin} (d : Done l t nm h r s m) : BroughtAs nm h (decide ((t.ins.length : Int) = 0)) r 0 t.outs m := d.brought.as d.spentAs.sorted
theorem Done.back {l : List Coin} {t : Tx} {nm h : Int} {r s m : List Coin} (d : Done l t nm h r s m) : revertOf m t nm s = (l, 0) := by
  have S := d.spentAs
  unfold revertOf
  rw [if_neg (by rw [(coinsCheck_iff m).2 d.end_]; decide), if_neg (by rw [d.tx]; decide), if_neg (by have := S.len; omega), take_run S.sorted d.brought]
  obtain ⟨q, h1, h2, h3⟩ := back_run (ins := t.ins) (bad := bad2) (K := endR) (cs := s) (r := r) (k := 0) S.sorted (fun c hc e he => by
    obtain ⟨_, x, hx, hxp⟩ := S.from hc
    rw [← hxp]
    exact fun e' => ((S.mem e).1 he).2 x hx e'.symm) S.apart' fun j c hc => by
      have hj := (List.getElem?_eq_some_iff.1 hc).1
      have hl := S.len
      obtain ⟨c', k1, _, k3⟩ := S.fine j t.ins[j] (List.getElem?_eq_getElem (by omega))
      rw [hc] at k1
      injection k1 with k1
      exact ⟨t.ins[j], by rw [Nat.zero_add]; exact List.getElem?_eq_getElem (by omega), by rw [k1, k3.p]⟩
  rw [h1]
  have : q = l := sorted_ext h2 d.ok.sorted fun c => by rw [h3, S.all d.ok.sorted]
  subst this
  unfold endR
  rw [if_neg (by rw [(coinsCheck_iff q).2 d.ok]; decide)]
theorem Done.short {l : List Coin} {t : Tx} {nm h : Int} {r s m : List Coin} (d : Done l t nm h r s m) : LocksShort s := by
  have S := d.spentAs
  exact ⟨by have := S.len; have := (txCheck_ok d.tx).ins; omega, fun c hc => d.ok.short.2 c (S.from hc).1⟩
theorem totalOf_ok {l : List Coin} (h : CoinsOK l) : totalOf l = (coinTotal l, 0) := by
  unfold totalOf
  rw [if_neg (by rw [(coinsCheck_iff l).2 h]; decide), foldl_total]
  simp
theorem outs_pos {t : Tx} (ok : TxOK t) : 0 < outsTotal t.outs := by
  have key : ∀ os : List Out, (∀ o ∈ os, 1 ≤ o.coin) → (os.length : Int) ≤ outsTotal os := by
    intro os
    induction os with
    | nil => intro _; simp [outsTotal]
    | cons o os ih =>
      intro h
      have h1 := h o (List.mem_cons_self ..)
      have h2 := ih fun x hx => h x (List.mem_cons_of_mem _ hx)
      simp only [outsTotal, List.map_cons, List.sum_cons, List.length_cons] at h2 ⊢
      omega
  have := key t.outs fun o ho => (ok.good o ho).1
  have := ok.some
  omega
theorem Done.sums {l : List Coin} {t : Tx} {nm h : Int} {r s m : List Coin} (d : Done l t nm h r s m) : (t.ins.length = 0 → coinTotal l < coinTotal m) ∧ (t.ins.length ≠ 0 → coinTotal m ≤ coinTotal l) := by
  have S := d.spentAs
  have B := d.broughtAs
  have h1 := S.total
  have h2 := B.total
  have h3 := outs_pos (txCheck_ok d.tx)
  refine ⟨fun h0 => ?_, fun h0 => ?_⟩
  · have : s = [] := List.eq_nil_of_length_eq_zero (by rw [S.len]; exact h0)
    subst this
    simp only [coinTotal] at h1
    omega
  · have := d.fee h0
    rw [feeOf_eq] at this
    omega
theorem find_gone {m : List Coin} {p : Point} (ok : CoinsOK m) (h : hasP m p = false) : findOf m p = (coin0, 7) := by
  unfold findOf
  rw [if_neg (by rw [(coinsCheck_iff m).2 ok]; decide), if_neg (by simp [h])]
theorem find_there {m : List Coin} {c : Coin} (ok : CoinsOK m) (h : c ∈ m) : findOf m c.p = (c, 0) := by
  unfold findOf
  rw [if_neg (by rw [(coinsCheck_iff m).2 ok]; decide), if_pos (hasP_mem.2 ⟨c, h, rfl⟩), at_pos ok.sorted h]
  rfl
theorem Done.gone {l : List Coin} {t : Tx} {nm h : Int} {r s m : List Coin} (d : Done l t nm h r s m) {x : In} (hx : x ∈ t.ins) (hn : x.p.tx ≠ nm) : findOf m x.p = (coin0, 7) := by
  have S := d.spentAs
  have B := d.broughtAs
  refine find_gone d.end_ (hasP_not.2 fun c hc e => ?_)
  rcases (B.mem c).1 hc with hc | ⟨j, o, _, rfl⟩
  · exact ((S.mem c).1 hc).2 x hx e.symm
  · exact hn (by rw [← e]; rfl)
theorem Done.was {l : List Coin} {t : Tx} {nm h : Int} {r s m : List Coin} (d : Done l t nm h r s m) {x : In} (hx : x ∈ t.ins) : ∃ c, findOf l x.p = (c, 0) := by
  obtain ⟨i, hi⟩ := List.getElem?_of_mem hx
  obtain ⟨c, _, hc, hf⟩ := d.spentAs.fine i x hi
  exact ⟨c, by rw [← hf.p]; exact find_there d.ok hc⟩
end Go.Proofs.Ytnnbnjanekibpaa
namespace Go.Proofs.Ytnnbnjanekibpaa
open Go.RowKit
set_option linter.unusedVariables false
set_option linter.unusedSimpArgs false
set_option maxRecDepth 100000
set_option maxHeartbeats 4000000
attribute [local irreducible] specOf spD ordP coinsCheck txCheck applyOf revertOf findOf totalOf
noncomputable def sp_lUnBack : Spec := spD (fun _ : List Coin × Tx × Int × Int => True) fun _ => true
def t_lUnBack_0 : T :=
  .lets [.call 19 [.v 0, .v 29, .v 30] 0, .call 19 [.v 0, .v 29, .v 30] 1, .call 19 [.v 0, .v 29, .v 30] 2, .call 19 [.v 0, .v 29, .v 30] 3, .call 19 [.v 0, .v 29, .v 30] 4, .call 19
  [.v 0, .v 29, .v 30] 5, .call 19 [.v 0, .v 29, .v 30] 6] [] (.lets [.bin .neq (.v 47) (.c (.i .i64 0))] [] (.ite (.v 48) (.ret [.c (.b false)]) (.lets [.bin .add (.v 27) (.c (.i
  .i64 1))] [] (.again 0 [.v 26, .v 49]))))
def t_lUnBack_1 : T :=
  .lets [.call 19 [.v 0, .v 29, .v 30] 0, .call 19 [.v 0, .v 29, .v 30] 1, .call 19 [.v 0, .v 29, .v 30] 2, .call 19 [.v 0, .v 29, .v 30] 3, .call 19 [.v 0, .v 29, .v 30] 4, .call 19
  [.v 0, .v 29, .v 30] 5, .call 19 [.v 0, .v 29, .v 30] 6] [] (.lets [.bin .neq (.v 46) (.c (.i .i64 0))] [] (.ite (.v 47) (.ret [.c (.b false)]) (.lets [.bin .add (.v 27) (.c (.i
  .i64 1))] [] (.again 0 [.v 26, .v 48]))))
def t_lUnBack_2 : T :=
  .lets [.call 19 [.v 6, .v 29, .v 30] 0, .call 19 [.v 6, .v 29, .v 30] 1, .call 19 [.v 6, .v 29, .v 30] 2, .call 19 [.v 6, .v 29, .v 30] 3, .call 19 [.v 6, .v 29, .v 30] 4, .call 19
  [.v 6, .v 29, .v 30] 5, .call 19 [.v 6, .v 29, .v 30] 6] [] (.lets [.bin .neq (.v 29) (.v 4)] [] (.ite (.v 39) (.lets [.bin .neq (.v 38) (.c (.i .i64 7))] [] (.ite (.v 40) (.ret [.c
  (.b false)]) t_lUnBack_0)) t_lUnBack_1))
def t_lUnBack_3 : T :=
  .lets [.len (.v 2)] [] (.lets [.bin .gtr (.v 32) (.c (.i .i64 0))] [] (.ite (.v 33) (.lets [.bin .leq (.v 16) (.v 14)] [] (.ret [.v 34])) (.ret [.c (.b false)])))
def t_lUnBack_4 : T :=
  .lets [.len (.v 2)] [] (.lets [.bin .gtr (.v 31) (.c (.i .i64 0))] [] (.ite (.v 32) (.lets [.bin .leq (.v 16) (.v 14)] [] (.ret [.v 33])) (.ret [.c (.b false)])))
def t_lUnBack_5 : T :=
  .lets [.len (.v 2)] [] (.lets [.bin .eql (.v 29) (.c (.i .i64 0))] [] (.ite (.v 30) (.lets [.bin .gtr (.v 16) (.v 14)] [] (.ite (.v 31) (.ret [.c (.b true)]) t_lUnBack_3))
  t_lUnBack_4))
def t_lUnBack_6 : T :=
  .lets [.bin .lss (.v 27) (.v 25)] [] (.ite (.v 28) (.lets [] [.inr 3 (.v 2) (.v 27)] (.lets [.idx (.v 2) (.v 27) 0, .idx (.v 2) (.v 27) 1, .idx (.v 2) (.v 27) 2] [] t_lUnBack_2))
  t_lUnBack_5)
def t_lUnBack_7 : T :=
  .lets [.call 8 [.v 6] 0] [] (.lets [.bin .neq (.v 23) (.c (.i .i64 0))] [] (.ite (.v 24) (.ret [.c (.b false)]) (.lets [.len (.v 2)] [] (.loop [.c (.b false), .c (.i .i64 0)]
  t_lUnBack_6))))
def t_lUnBack_8 : T :=
  .lets [.bin .neq (.v 17) (.c (.i .i64 0))] [] (.ite (.v 20) (.ret [.c (.b false)]) (.lets [.call 26 [.v 12, .v 0] 0] [] (.lets [.not (.v 21)] [] (.ite (.v 22) (.ret [.c (.b false)])
  t_lUnBack_7))))
def t_lUnBack_9 : T :=
  .lets [.bin .neq (.v 13) (.c (.i .i64 0))] [] (.ite (.v 18) (.ret [.c (.b false)]) (.lets [.bin .neq (.v 15) (.c (.i .i64 0))] [] (.ite (.v 19) (.ret [.c (.b false)]) t_lUnBack_8)))
def t_lUnBack_10 : T :=
  .lets [.call 35 [.v 6, .v 1, .v 2, .v 3, .v 4, .v 7] 0, .call 35 [.v 6, .v 1, .v 2, .v 3, .v 4, .v 7] 1] [] (.lets [.call 12 [.v 0] 0, .call 12 [.v 0] 1] [] (.lets [.call 12 [.v 6]
  0, .call 12 [.v 6] 1] [] t_lUnBack_9))
def t_lUnBack_11 : T :=
  .ite (.v 10) (.lets [.call 20 [] 0] [] (.ret [.v 11])) (.lets [.bin .neq (.v 8) (.c (.i .i64 0))] [] (.ite (.v 11) (.lets [.call 20 [] 0] [] (.ret [.v 12])) t_lUnBack_10))
def t_lUnBack : T :=
  .lets [.call 18 [.v 0, .v 1, .v 2, .v 3, .v 4, .v 5] 0, .call 18 [.v 0, .v 1, .v 2, .v 3, .v 4, .v 5] 1, .call 18 [.v 0, .v 1, .v 2, .v 3, .v 4, .v 5] 2] [] (.lets [.call 20 [] 0]
  [] (.lets [.not (.v 9)] [] t_lUnBack_11))
theorem m_lUnBack : Meets Try.prog sp_lUnBack 16 ⟨[.one, .agg 3, .one, .one], [(false, [.scal])], true⟩ := by
  refine meets_fast (sp := (spsOf [(8, sp_unCheck), (12, sp_unTotal), (18, sp_unApply), (19, sp_unFind), (20, sp_lThere), (26, sp_unSame), (35, sp_unRevert)])) (sigs := sigsA) (cut := []) (hints := [⟨10, [.t 8, .t 81]⟩]) (fn := Try.f16) (t := t_lUnBack) (by kernel_rfl) (by kernel_rfl) (by kernel_rfl) ?_ ?_
  · exact (sig_of (L := [(8, sp_unCheck), (12, sp_unTotal), (18, sp_unApply), (19, sp_unFind), (20, sp_lThere), (26, sp_unSame), (35, sp_unRevert)]) ⟨sig_at rfl m_unCheck, sig_at rfl m_unTotal, sig_at rfl m_unApply, sig_at rfl m_unFind, sig_at rfl m_lThere, sig_at rfl m_unSame, sig_at rfl m_unRevert, trivial⟩)
  · rintro ds rs - h
    obtain ⟨⟨l, t, nm, ht⟩, -, rfl, rfl⟩ := spD_some h
    clear h
    refine ⟨⟨t.ins.length + 1, ?_⟩, scalOk_1 rfl⟩
    show den _ _ t_lUnBack [.l 6 (l.map eCoin), I t.height, .l 3 (t.ins.map eIn), .l 2 (t.outs.map eOut), I nm, I ht] [] = ret true
    unfold t_lUnBack
    repeat' (first | refine den_let1 (by first | exact dx_eql rfl rfl | exact dx_neq rfl rfl | exact dx_lss rfl rfl | exact dx_gtr rfl rfl | exact dx_geq rfl rfl | exact dx_leq rfl rfl | exact dx_len rfl | exact den_add rfl rfl (by omega) | exact den_sub rfl rfl (by omega) | exact dx_idx rfl rfl (by omega) (by first | assumption | exact hx) rfl | exact den_call rfl (sp_unApply_at l t nm ht) rfl | exact den_call rfl (sp_lThere_at) rfl | exact dx_not rfl | exact dx_len0 rfl | exact dx_eqS rfl rfl | exact dx_neS rfl rfl | exact dx_eqB rfl rfl | exact dx_neB rfl rfl | exact dx_eqP rfl rfl rfl rfl | exact dx_neP rfl rfl rfl rfl | exact dx_neg rfl (by omega) | exact dx_cutl rfl rfl (by omega) (by omega) (by assumption) | exact den_mk (r := [[I _]]) rfl rfl (by simp) | exact dx_sel rfl rfl (by omega) rfl | exact dx_mn rfl rfl | exact dx_slen rfl | exact dx_app1 (fun _ => rfl) rfl rfl (by first | omega | (simp only [List.length_append, List.length_cons, List.length_nil]; omega))) ?_ | refine den_ck (by exact dx_inr rfl rfl (by omega) (by omega)) ?_ | refine den_lets (by first | exact dx_el rfl rfl (by omega) (by first | assumption | exact hx) (by rfl) | exact dx_calls rfl (sp_unApply_at l t nm ht) (by rfl) | exact dx_calls rfl (sp_lThere_at) (by rfl) | exact denXs_cons (dx_idx rfl rfl (by omega) (by first | assumption | exact hx) rfl) (denXs_cons (dx_idx rfl rfl (by omega) (by first | assumption | exact hx) rfl) denXs_nil)) ?_ (by simp only [eCoin, eTx, eIn, eOut, eOp, ePoint, eInt, eStr, eBlock, eTree, eBook, eUndo, eBool, List.cons_append, List.nil_append]; try exact rfl) | exact den_ret rfl rfl | refine den_ifR rfl (by with_reducible rfl) (fun h => ?_) (fun h => ?_) | refine den_ifB rfl (by with_reducible rfl) (fun h => ?_) (fun h => ?_) | refine den_ifC rfl (by with_reducible rfl) (fun h => ?_) (fun h => ?_) | refine den_ifBn rfl (by with_reducible rfl) (fun h => ?_) (fun h => ?_) | refine den_ifF rfl (by with_reducible rfl) (fun h => ?_) (fun h => ?_) | refine den_ifFn rfl (by with_reducible rfl) (fun h => ?_) (fun h => ?_) | refine den_ifAndOr rfl (by with_reducible rfl) (fun h => ?_) (fun h => ?_) | refine den_ifOrAnd rfl (by with_reducible rfl) (fun h => ?_) (fun h => ?_) | refine den_ifAnd rfl (by with_reducible rfl) (fun h => ?_) (fun h => ?_) | refine den_ifOr rfl (by with_reducible rfl) (fun h => ?_) (fun h => ?_) | refine den_band rfl (by with_reducible rfl) (fun h => ?_) (fun h => ?_) | refine den_bor rfl (by with_reducible rfl) (fun h => ?_) (fun h => ?_) | refine den_T rfl (by first | assumption | omega) ?_ | refine den_F rfl (by first | assumption | omega) ?_ | refine den_t rfl ?_ | refine den_f rfl ?_ | refine den_sp rfl (fun h => ?_) (fun h => ?_))
    have h0 : (applyOf l t nm ht).2.2 = 0 := Decidable.not_not.1 (by assumption)
    obtain ⟨r, d⟩ := apply_done h0
    generalize (applyOf l t nm ht).1 = m at *
    generalize (applyOf l t nm ht).2.1 = s at *
    have hti := (txCheck_ok d.tx).ins
    have b1 := sp_unRevert_at m t nm s d.short
    rw [d.back] at b1
    have b2 := sp_unTotal_at l
    rw [totalOf_ok d.ok] at b2
    have b3 := sp_unTotal_at m
    rw [totalOf_ok d.end_] at b3
    have b4 := sp_unSame_at l l
    rw [decide_eq_true rfl] at b4
    have b5 := sp_unCheck_at m
    rw [(coinsCheck_iff m).2 d.end_] at b5
    repeat' (first | refine den_let1 (by first | exact dx_eql rfl rfl | exact dx_neq rfl rfl | exact dx_lss rfl rfl | exact dx_gtr rfl rfl | exact dx_geq rfl rfl | exact dx_leq rfl rfl | exact dx_len rfl | exact den_add rfl rfl (by omega) | exact den_sub rfl rfl (by omega) | exact dx_idx rfl rfl (by omega) (by first | assumption | exact hx) rfl | exact den_call rfl (b1) rfl | exact den_call rfl (b2) rfl | exact den_call rfl (b3) rfl | exact den_call rfl (b4) rfl | exact den_call rfl (b5) rfl | exact dx_not rfl | exact dx_len0 rfl | exact dx_eqS rfl rfl | exact dx_neS rfl rfl | exact dx_eqB rfl rfl | exact dx_neB rfl rfl | exact dx_eqP rfl rfl rfl rfl | exact dx_neP rfl rfl rfl rfl | exact dx_neg rfl (by omega) | exact dx_cutl rfl rfl (by omega) (by omega) (by assumption) | exact den_mk (r := [[I _]]) rfl rfl (by simp) | exact dx_sel rfl rfl (by omega) rfl | exact dx_mn rfl rfl | exact dx_slen rfl | exact dx_app1 (fun _ => rfl) rfl rfl (by first | omega | (simp only [List.length_append, List.length_cons, List.length_nil]; omega))) ?_ | refine den_ck (by exact dx_inr rfl rfl (by omega) (by omega)) ?_ | refine den_lets (by first | exact dx_el rfl rfl (by omega) (by first | assumption | exact hx) (by rfl) | exact dx_calls rfl (b1) (by rfl) | exact dx_calls rfl (b2) (by rfl) | exact dx_calls rfl (b3) (by rfl) | exact dx_calls rfl (b4) (by rfl) | exact dx_calls rfl (b5) (by rfl) | exact denXs_cons (dx_idx rfl rfl (by omega) (by first | assumption | exact hx) rfl) (denXs_cons (dx_idx rfl rfl (by omega) (by first | assumption | exact hx) rfl) denXs_nil)) ?_ (by simp only [eCoin, eTx, eIn, eOut, eOp, ePoint, eInt, eStr, eBlock, eTree, eBook, eUndo, eBool, List.cons_append, List.nil_append]; try exact rfl) | exact den_ret rfl rfl | refine den_ifR rfl (by with_reducible rfl) (fun h => ?_) (fun h => ?_) | refine den_ifB rfl (by with_reducible rfl) (fun h => ?_) (fun h => ?_) | refine den_ifC rfl (by with_reducible rfl) (fun h => ?_) (fun h => ?_) | refine den_ifBn rfl (by with_reducible rfl) (fun h => ?_) (fun h => ?_) | refine den_ifF rfl (by with_reducible rfl) (fun h => ?_) (fun h => ?_) | refine den_ifFn rfl (by with_reducible rfl) (fun h => ?_) (fun h => ?_) | refine den_ifAndOr rfl (by with_reducible rfl) (fun h => ?_) (fun h => ?_) | refine den_ifOrAnd rfl (by with_reducible rfl) (fun h => ?_) (fun h => ?_) | refine den_ifAnd rfl (by with_reducible rfl) (fun h => ?_) (fun h => ?_) | refine den_ifOr rfl (by with_reducible rfl) (fun h => ?_) (fun h => ?_) | refine den_band rfl (by with_reducible rfl) (fun h => ?_) (fun h => ?_) | refine den_bor rfl (by with_reducible rfl) (fun h => ?_) (fun h => ?_) | refine den_T rfl (by first | assumption | omega) ?_ | refine den_F rfl (by first | assumption | omega) ?_ | refine den_t rfl ?_ | refine den_f rfl ?_ | refine den_sp rfl (fun h => ?_) (fun h => ?_))
    (refine den_range (fun (_ : Unit) k => [.b false, I k]) (fun (_ : Unit) _ (_ : List In) => true) (fun _ k => True) () t.ins ?_ ?_ ?_ ?_ ?_; rfl; exact trivial; omega)
    · rintro _ k x xs hx hd hk - again hag
      have hxm := List.mem_of_getElem? hx
      obtain ⟨c, hc⟩ := d.was hxm
      have b6 := sp_unFind_at l x.p
      rw [hc] at b6
      have b7 := sp_unFind_at m x.p
      have b8 : x.p.tx ≠ nm → (findOf m x.p).2 = 7 := fun hn => by rw [d.gone hxm hn]
      repeat' (first | refine den_let1 (by first | exact dx_eql rfl rfl | exact dx_neq rfl rfl | exact dx_lss rfl rfl | exact dx_gtr rfl rfl | exact dx_geq rfl rfl | exact dx_leq rfl rfl | exact dx_len rfl | exact den_add rfl rfl (by omega) | exact den_sub rfl rfl (by omega) | exact dx_idx rfl rfl (by omega) (by first | assumption | exact hx) rfl | exact den_call rfl (b7) rfl | exact den_call rfl (b6) rfl | exact dx_not rfl | exact dx_len0 rfl | exact dx_eqS rfl rfl | exact dx_neS rfl rfl | exact dx_eqB rfl rfl | exact dx_neB rfl rfl | exact dx_eqP rfl rfl rfl rfl | exact dx_neP rfl rfl rfl rfl | exact dx_neg rfl (by omega) | exact dx_cutl rfl rfl (by omega) (by omega) (by assumption) | exact den_mk (r := [[I _]]) rfl rfl (by simp) | exact dx_sel rfl rfl (by omega) rfl | exact dx_mn rfl rfl | exact dx_slen rfl | exact dx_app1 (fun _ => rfl) rfl rfl (by first | omega | (simp only [List.length_append, List.length_cons, List.length_nil]; omega))) ?_ | refine den_ck (by exact dx_inr rfl rfl (by omega) (by omega)) ?_ | refine den_lets (by first | exact dx_el rfl rfl (by omega) (by first | assumption | exact hx) (by rfl) | exact dx_calls rfl (b7) (by rfl) | exact dx_calls rfl (b6) (by rfl) | exact denXs_cons (dx_idx rfl rfl (by omega) (by first | assumption | exact hx) rfl) (denXs_cons (dx_idx rfl rfl (by omega) (by first | assumption | exact hx) rfl) denXs_nil)) ?_ (by simp only [eCoin, eTx, eIn, eOut, eOp, ePoint, eInt, eStr, eBlock, eTree, eBook, eUndo, eBool, List.cons_append, List.nil_append]; try exact rfl) | exact den_ret rfl rfl | refine den_ifR rfl (by with_reducible rfl) (fun h => ?_) (fun h => ?_) | refine den_ifB rfl (by with_reducible rfl) (fun h => ?_) (fun h => ?_) | refine den_ifC rfl (by with_reducible rfl) (fun h => ?_) (fun h => ?_) | refine den_ifBn rfl (by with_reducible rfl) (fun h => ?_) (fun h => ?_) | refine den_ifF rfl (by with_reducible rfl) (fun h => ?_) (fun h => ?_) | refine den_ifFn rfl (by with_reducible rfl) (fun h => ?_) (fun h => ?_) | refine den_ifAndOr rfl (by with_reducible rfl) (fun h => ?_) (fun h => ?_) | refine den_ifOrAnd rfl (by with_reducible rfl) (fun h => ?_) (fun h => ?_) | refine den_ifAnd rfl (by with_reducible rfl) (fun h => ?_) (fun h => ?_) | refine den_ifOr rfl (by with_reducible rfl) (fun h => ?_) (fun h => ?_) | refine den_band rfl (by with_reducible rfl) (fun h => ?_) (fun h => ?_) | refine den_bor rfl (by with_reducible rfl) (fun h => ?_) (fun h => ?_) | refine den_T rfl (by first | assumption | omega) ?_ | refine den_F rfl (by first | assumption | omega) ?_ | refine den_t rfl ?_ | refine den_f rfl ?_ | refine den_sp rfl (fun h => ?_) (fun h => ?_))
      all_goals exact den_again rfl rfl (hag () trivial)
    · rintro _ - again
      obtain ⟨s1, s2⟩ := d.sums
      repeat' (first | refine den_let1 (by first | exact dx_eql rfl rfl | exact dx_neq rfl rfl | exact dx_lss rfl rfl | exact dx_gtr rfl rfl | exact dx_geq rfl rfl | exact dx_leq rfl rfl | exact dx_len rfl | exact den_add rfl rfl (by omega) | exact den_sub rfl rfl (by omega) | exact dx_idx rfl rfl (by omega) (by first | assumption | exact hx) rfl | exact dx_not rfl | exact dx_len0 rfl | exact dx_eqS rfl rfl | exact dx_neS rfl rfl | exact dx_eqB rfl rfl | exact dx_neB rfl rfl | exact dx_eqP rfl rfl rfl rfl | exact dx_neP rfl rfl rfl rfl | exact dx_neg rfl (by omega) | exact dx_cutl rfl rfl (by omega) (by omega) (by assumption) | exact den_mk (r := [[I _]]) rfl rfl (by simp) | exact dx_sel rfl rfl (by omega) rfl | exact dx_mn rfl rfl | exact dx_slen rfl | exact dx_app1 (fun _ => rfl) rfl rfl (by first | omega | (simp only [List.length_append, List.length_cons, List.length_nil]; omega))) ?_ | refine den_ck (by exact dx_inr rfl rfl (by omega) (by omega)) ?_ | refine den_lets (by first | exact dx_el rfl rfl (by omega) (by first | assumption | exact hx) (by rfl) | exact denXs_cons (dx_idx rfl rfl (by omega) (by first | assumption | exact hx) rfl) (denXs_cons (dx_idx rfl rfl (by omega) (by first | assumption | exact hx) rfl) denXs_nil)) ?_ (by simp only [eCoin, eTx, eIn, eOut, eOp, ePoint, eInt, eStr, eBlock, eTree, eBook, eUndo, eBool, List.cons_append, List.nil_append]; try exact rfl) | exact den_ret rfl rfl | refine den_ifR rfl (by with_reducible rfl) (fun h => ?_) (fun h => ?_) | refine den_ifB rfl (by with_reducible rfl) (fun h => ?_) (fun h => ?_) | refine den_ifC rfl (by with_reducible rfl) (fun h => ?_) (fun h => ?_) | refine den_ifBn rfl (by with_reducible rfl) (fun h => ?_) (fun h => ?_) | refine den_ifF rfl (by with_reducible rfl) (fun h => ?_) (fun h => ?_) | refine den_ifFn rfl (by with_reducible rfl) (fun h => ?_) (fun h => ?_) | refine den_ifAndOr rfl (by with_reducible rfl) (fun h => ?_) (fun h => ?_) | refine den_ifOrAnd rfl (by with_reducible rfl) (fun h => ?_) (fun h => ?_) | refine den_ifAnd rfl (by with_reducible rfl) (fun h => ?_) (fun h => ?_) | refine den_ifOr rfl (by with_reducible rfl) (fun h => ?_) (fun h => ?_) | refine den_band rfl (by with_reducible rfl) (fun h => ?_) (fun h => ?_) | refine den_bor rfl (by with_reducible rfl) (fun h => ?_) (fun h => ?_) | refine den_T rfl (by first | assumption | omega) ?_ | refine den_F rfl (by first | assumption | omega) ?_ | refine den_t rfl ?_ | refine den_f rfl ?_ | refine den_sp rfl (fun h => ?_) (fun h => ?_))
      exact den_ret rfl (by rw [decide_eq_true (s2 (by omega))]; rfl)
theorem unspentBack_walk (l : List (Coin)) (A_l : Option Addr) (n_l c_l : Nat) (t : Tx) (c_t : List Value) (nm : Int) (ht : Int) (w : World) (h_l : Rds shCoin w (Lt w.heap.size) l A_l n_l c_l) (h_t : shTx.rep w (Lt w.heap.size) t c_t) (nm_0 : -9223372036854775808 ≤ nm) (nm_1 : nm ≤ 9223372036854775807) (ht_0 : -9223372036854775808 ≤ ht) (ht_1 : ht ≤ 9223372036854775807) :
    Calls Try.prog 16 #[.slice A_l n_l c_l, .agg c_t.toArray, .int .i64 nm, .int .i64 ht] w fun e w' => e = .returned (.bool true) ∧ Below w.heap.size w w' :=
  meets_calls (F := Lt w.heap.size) (us := [.slice A_l n_l c_l, .agg c_t.toArray, .int .i64 nm, .int .i64 ht]) rfl (en_of (fn := Try.f16) (by kernel_rfl) (by kernel_rfl) (by kernel_rfl)) m_lUnBack (fun _ h => h) (spD_at (f := fun _ => true) (l, t, nm, ht) trivial)
    (pks_mk_one (rds_rep she_coin h_l) (pks_mk_agg (d1 := eTx t) (she_tx.to h_t) rfl (pks_mk_one (.i _ _ (wrap_i64 ⟨nm_0, nm_1⟩)) (pks_mk_one (.i _ _ (wrap_i64 ⟨ht_0, ht_1⟩)) pks_mk_nil))))
end Go.Proofs.Ytnnbnjanekibpaa
namespace Go.Proofs.Ytnnbnjanekibpaa
open Go.RowKit
set_option linter.unusedVariables false
set_option linter.unusedSimpArgs false
theorem coinsCheck_rest {l : List Coin} (hg : ∀ c ∈ l, coinBad c = 0) (hs : SortedC l) : coinsCheck l = 0 ∨ coinsCheck l = 12 ∨ coinsCheck l = 2 := by
  unfold coinsCheck
  by_cases h : (720 : Int) < l.length
  · rw [if_pos h]; exact .inr (.inr rfl)
  · rw [if_neg h]
    have key : ∀ (l : List Coin) (p : Point) (s : Int), (∀ c ∈ l, coinBad c = 0) → SortedC l → (∀ c ∈ l, ltP p c.p) → coinsGo p s l = 0 ∨ coinsGo p s l = 12 := by
      intro l
      induction l with
      | nil => intro p s _ _ _; exact .inl rfl
      | cons c l ih =>
        intro p s hg hs hp
        have hb := hg c (List.mem_cons_self ..)
        have hb' := hb
        unfold coinBad at hb'
        split at hb'
        · cases hb'
        rename_i hr
        have hs' := List.pairwise_cons.1 hs
        rw [coinsGo, if_neg hr, if_neg (by simp [hb']), if_neg (by have := (ordP_lt p c.p).2 (hp c (List.mem_cons_self ..)); omega)]
        split
        · exact .inr rfl
        · exact ih c.p _ (fun d hd => hg d (List.mem_cons_of_mem _ hd)) hs'.2 hs'.1
    rcases key l ⟨0, 0⟩ 0 hg hs (fun c hc => by
      have := coinBad_ok (hg c hc)
      unfold ltP
      simp only
      omega) with h | h
    · exact .inl h
    · exact .inr (.inl h)
theorem apply_run {l : List Coin} {t : Tx} {nm h : Int} {r s m : List Coin} (ok : CoinsOK l) (tx : txCheck t = 0) (n1 : 1 ≤ nm) (n2 : nm ≤ 120) (h1 : 1 ≤ h) (h2 : h ≤ 1000) (hh : t.ins.length = 0 → t.height = h) (hs : Spent h l [] t.ins r s) (hf : t.ins.length ≠ 0 → 0 ≤ feeOf t s) (hb : Brought nm h (decide ((t.ins.length : Int) = 0)) r 0 t.outs m) : applyOf l t nm h = endA s m := by
  unfold applyOf
  rw [if_neg (by rw [(coinsCheck_iff l).2 ok]; decide), if_neg (by rw [tx]; decide), if_neg (by omega)]
  by_cases h0 : (t.ins.length : Int) = 0
  · rw [if_pos h0, if_neg (by rw [hh (by omega)]; simp), hs.run, hb.run]
  · rw [if_neg h0, hs.run, if_neg (by have := hf (by omega); omega), hb.run]
def Both (l : List Coin) (t u : Tx) (a b h : Int) (c : Coin) : Prop :=
  (c ∈ l ∧ (∀ x ∈ t.ins, x.p ≠ c.p) ∧ ∀ x ∈ u.ins, x.p ≠ c.p) ∨ (∃ (j : Nat) (o : Out), t.outs[j]? = some o ∧ c = outCoin a h (decide ((t.ins.length : Int) = 0)) j o) ∨ ∃ (j : Nat) (o : Out), u.outs[j]? = some o ∧ c = outCoin b h (decide ((u.ins.length : Int) = 0)) j o
theorem both_half {l : List Coin} {t u : Tx} {a b h : Int} {r1 s1 x r2 s2 y : List Coin} (d1 : Done l t a h r1 s1 x) (d2 : Done l u b h r2 s2 y) (hab : a ≠ b) (hx : ∀ i ∈ t.ins, ∀ j ∈ u.ins, j.p ≠ i.p) (hu : ∀ j ∈ u.ins, j.p.tx ≠ a) :
    ∃ m, applyOf x u b h = endA s2 m ∧ SortedC m ∧ (∀ c ∈ m, coinBad c = 0) ∧ ∀ c, c ∈ m ↔ Both l t u a b h c := by
  have S1 := d1.spentAs
  have B1 := d1.broughtAs
  have S2 := d2.spentAs
  have B2 := d2.broughtAs
  obtain ⟨r3, hs⟩ := Spent.of (h := h) (xs := u.ins) (r := x) (s := []) (cs := s2) B1.sorted S2.apart S2.len fun i z hz => by
    obtain ⟨c, h1, h2, h3⟩ := S2.fine i z hz
    refine ⟨c, h1, (B1.mem c).2 (.inl ((S1.mem c).2 ⟨h2, fun w hw e => ?_⟩)), h3⟩
    exact hx w hw z (List.mem_of_getElem? hz) (by rw [e, h3.p])
  obtain ⟨cs, e, S3⟩ := hs.as B1.sorted
  rw [List.nil_append, List.nil_append] at e
  subst e
  rw [List.nil_append] at hs
  have hr3 : ∀ c, c ∈ r3 ↔ (c ∈ l ∧ (∀ x ∈ t.ins, x.p ≠ c.p) ∧ ∀ x ∈ u.ins, x.p ≠ c.p) ∨ ∃ (j : Nat) (o : Out), t.outs[j]? = some o ∧ c = outCoin a h (decide ((t.ins.length : Int) = 0)) j o := by
    intro c
    rw [S3.mem, B1.mem, S1.mem]
    simp only [Nat.zero_add]
    constructor
    · rintro ⟨⟨h1, h2⟩ | h1, h3⟩
      · exact .inl ⟨h1, h2, h3⟩
      · exact .inr h1
    · rintro (⟨h1, h2, h3⟩ | h1)
      · exact ⟨.inl ⟨h1, h2⟩, h3⟩
      · refine ⟨.inr h1, fun z hz e => ?_⟩
        obtain ⟨j, o, _, rfl⟩ := h1
        exact hu z hz (by rw [e]; rfl)
  obtain ⟨m, hb⟩ := Brought.of (nm := b) (h := h) (rw := decide ((u.ins.length : Int) = 0)) (os := u.outs) (r := r3) (i := 0) S3.sorted fun c hc j hj => by
    rcases (hr3 c).1 hc with ⟨h1, h2, h3⟩ | ⟨k, o, _, rfl⟩
    · exact B2.free c ((S2.mem c).2 ⟨h1, h3⟩) j hj
    · simp only [outCoin, ne_eq, Point.mk.injEq, not_and]
      intro e
      exact absurd e hab
  have B3 := hb.as S3.sorted
  have hm : ∀ c, c ∈ m ↔ Both l t u a b h c := by
    intro c
    rw [B3.mem, hr3]
    unfold Both
    simp only [Nat.zero_add]
    constructor
    · rintro ((h1 | h1) | h1)
      · exact .inl h1
      · exact .inr (.inl h1)
      · exact .inr (.inr h1)
    · rintro (h1 | h1 | h1)
      · exact .inl (.inl h1)
      · exact .inl (.inr h1)
      · exact .inr h1
  refine ⟨m, apply_run d1.end_ d2.tx d2.nm1 d2.nm2 d2.h1 d2.h2 d2.height hs d2.fee hb, B3.sorted, fun c hc => ?_, hm⟩
  rcases (hm c).1 hc with ⟨h1, _, _⟩ | ⟨j, o, h1, h2⟩ | ⟨j, o, h1, h2⟩
  · exact d1.ok.good c h1
  · exact d1.end_.good c ((B1.mem c).2 (.inr ⟨j, o, h1, by rw [h2, Nat.zero_add]⟩))
  · exact d2.end_.good c ((B2.mem c).2 (.inr ⟨j, o, h1, by rw [h2, Nat.zero_add]⟩))
theorem endA_cases {s m : List Coin} (hg : ∀ c ∈ m, coinBad c = 0) (hs : SortedC m) : ((endA s m).2.2 = 0 ∨ (endA s m).2.2 = 12 ∨ (endA s m).2.2 = 2) ∧ ((endA s m).2.2 = 0 → (endA s m).1 = m) := by
  unfold endA
  rcases coinsCheck_rest hg hs with h | h | h
  · rw [if_neg (by rw [h]; decide)]
    exact ⟨.inl rfl, fun _ => rfl⟩
  · rw [if_pos (by rw [h]; decide), h]
    exact ⟨.inr (.inl rfl), fun h => by cases h⟩
  · rw [if_pos (by rw [h]; decide), h]
    exact ⟨.inr (.inr rfl), fun h => by cases h⟩
theorem both_order {l : List Coin} {t u : Tx} {a b h : Int} {r1 s1 x r2 s2 y : List Coin} (d1 : Done l t a h r1 s1 x) (d2 : Done l u b h r2 s2 y) (hab : a ≠ b) (hx : ∀ i ∈ t.ins, ∀ j ∈ u.ins, j.p ≠ i.p) (ht : ∀ i ∈ t.ins, i.p.tx ≠ b) (hu : ∀ j ∈ u.ins, j.p.tx ≠ a) :
    ((applyOf x u b h).2.2 = 0 ∨ (applyOf x u b h).2.2 = 12 ∨ (applyOf x u b h).2.2 = 2) ∧ ((applyOf y t a h).2.2 = 0 ∨ (applyOf y t a h).2.2 = 12 ∨ (applyOf y t a h).2.2 = 2) ∧ ((applyOf x u b h).2.2 = 0 → (applyOf y t a h).2.2 = 0 → (applyOf x u b h).1 = (applyOf y t a h).1) := by
  obtain ⟨m, e1, g1, g2, g3⟩ := both_half d1 d2 hab hx hu
  obtain ⟨m', f1, k1, k2, k3⟩ := both_half d2 d1 (Ne.symm hab) (fun i hi j hj e => hx j hj i hi e.symm) ht
  rw [e1, f1]
  obtain ⟨c1, c2⟩ := endA_cases (s := s2) g2 g1
  obtain ⟨c3, c4⟩ := endA_cases (s := s1) k2 k1
  refine ⟨c1, c3, fun h1 h2 => ?_⟩
  rw [c2 h1, c4 h2]
  refine sorted_ext g1 k1 fun c => ?_
  rw [g3, k3]
  unfold Both
  constructor
  · rintro (⟨q1, q2, q3⟩ | q | q)
    · exact .inl ⟨q1, q3, q2⟩
    · exact .inr (.inr q)
    · exact .inr (.inl q)
  · rintro (⟨q1, q2, q3⟩ | q | q)
    · exact .inl ⟨q1, q3, q2⟩
    · exact .inr (.inr q)
    · exact .inr (.inl q)
end Go.Proofs.Ytnnbnjanekibpaa
namespace Go.Proofs.Ytnnbnjanekibpaa
open Go.RowKit
set_option linter.unusedVariables false
set_option linter.unusedSimpArgs false
set_option maxRecDepth 100000
set_option maxHeartbeats 4000000
attribute [local irreducible] specOf spD ordP coinsCheck txCheck applyOf
noncomputable def sp_lUnOrder : Spec := spD (fun _ : List Coin × Tx × Tx × Int × Int × Int => True) fun _ => true
def t_lUnOrder_0 : T :=
  .ite (.v 37) (.ret [.c (.b true)]) (.lets [.bin .eql (.v 25) (.v 8)] [] (.ite (.v 38) (.ret [.c (.b true)]) (.lets [.bin .add (.v 23) (.c (.i .i64 1))] [] (.again 0 [.v 22, .v
  39]))))
def t_lUnOrder_1 : T :=
  .ite (.v 35) (.lets [.bin .geq (.v 30) (.c (.i .i64 0))] [] (.ite (.v 36) (.ret [.c (.b true)]) (.lets [.bin .eql (.v 25) (.v 7)] [] t_lUnOrder_0))) (.lets [.bin .add (.v 30) (.c
  (.i .i64 1))] [] (.again 1 [.v 29, .v 36]))
def t_lUnOrder_2 : T :=
  .lets [] [.inr 3 (.v 5) (.v 30)] (.lets [.idx (.v 5) (.v 30) 0, .idx (.v 5) (.v 30) 1, .idx (.v 5) (.v 30) 2] [] (.lets [.eqs false [(.v 32, .v 25), (.v 33, .v 26)]] []
  t_lUnOrder_1))
def t_lUnOrder_3 : T :=
  .ite (.v 33) (.ret [.c (.b true)]) (.lets [.bin .eql (.v 25) (.v 8)] [] (.ite (.v 34) (.ret [.c (.b true)]) (.lets [.bin .add (.v 23) (.c (.i .i64 1))] [] (.again 0 [.v 22, .v
  35]))))
def t_lUnOrder_4 : T :=
  .ite (.v 31) t_lUnOrder_2 (.lets [.bin .geq (.c (.i .i64 (-1))) (.c (.i .i64 0))] [] (.ite (.v 32) (.ret [.c (.b true)]) (.lets [.bin .eql (.v 25) (.v 7)] [] t_lUnOrder_3)))
def t_lUnOrder_5 : T :=
  .lets [.idx (.v 2) (.v 23) 0, .idx (.v 2) (.v 23) 1, .idx (.v 2) (.v 23) 2] [] (.lets [.len (.v 5)] [] (.loop [.c (.i .i64 0), .c (.i .i64 0)] (.lets [.bin .lss (.v 30) (.v 28)] []
  t_lUnOrder_4)))
def t_lUnOrder_6 : T :=
  .ite (.v 32) (.ret [.c (.b true)]) (.lets [.bin .eql (.v 29) (.v 8)] [] (.ite (.v 33) (.ret [.c (.b true)]) (.lets [.bin .add (.v 27) (.c (.i .i64 1))] [] (.again 1 [.v 26, .v
  34]))))
def t_lUnOrder_7 : T :=
  .lets [] [.inr 3 (.v 5) (.v 27)] (.lets [.idx (.v 5) (.v 27) 0, .idx (.v 5) (.v 27) 1, .idx (.v 5) (.v 27) 2] [] (.lets [.bin .eql (.v 29) (.v 7)] [] t_lUnOrder_6))
def t_lUnOrder_8 : T :=
  .ite (.v 37) (.ret [.c (.b true)]) (.lets [.bin .eql (.v 34) (.c (.i .i64 12))] [] (.ite (.v 38) (.ret [.c (.b true)]) (.lets [.bin .eql (.v 34) (.c (.i .i64 2))] [] (.ret [.v
  39]))))
def t_lUnOrder_9 : T :=
  .ite (.v 38) (.ret [.c (.b true)]) (.lets [.bin .eql (.v 34) (.c (.i .i64 12))] [] (.ite (.v 39) (.ret [.c (.b true)]) (.lets [.bin .eql (.v 34) (.c (.i .i64 2))] [] (.ret [.v
  40]))))
def t_lUnOrder_10 : T :=
  .ite (.v 39) (.ret [.c (.b true)]) (.lets [.bin .eql (.v 34) (.c (.i .i64 12))] [] (.ite (.v 40) (.ret [.c (.b true)]) (.lets [.bin .eql (.v 34) (.c (.i .i64 2))] [] (.ret [.v
  41]))))
def t_lUnOrder_11 : T :=
  .ite (.v 37) (.lets [.bin .eql (.v 34) (.c (.i .i64 0))] [] t_lUnOrder_9) (.lets [.bin .eql (.v 31) (.c (.i .i64 2))] [] (.ite (.v 38) (.lets [.bin .eql (.v 34) (.c (.i .i64 0))] []
  t_lUnOrder_10) (.ret [.c (.b false)])))
def t_lUnOrder_12 : T :=
  .lets [.bin .eql (.v 31) (.c (.i .i64 0))] [] (.ite (.v 36) (.lets [.bin .eql (.v 34) (.c (.i .i64 0))] [] t_lUnOrder_8) (.lets [.bin .eql (.v 31) (.c (.i .i64 12))] []
  t_lUnOrder_11))
def t_lUnOrder_13 : T :=
  .ite (.v 40) (.ret [.c (.b true)]) (.lets [.bin .eql (.v 34) (.c (.i .i64 12))] [] (.ite (.v 41) (.ret [.c (.b true)]) (.lets [.bin .eql (.v 34) (.c (.i .i64 2))] [] (.ret [.v
  42]))))
def t_lUnOrder_14 : T :=
  .ite (.v 38) (.lets [.bin .eql (.v 34) (.c (.i .i64 0))] [] t_lUnOrder_10) (.lets [.bin .eql (.v 31) (.c (.i .i64 2))] [] (.ite (.v 39) (.lets [.bin .eql (.v 34) (.c (.i .i64 0))]
  [] t_lUnOrder_13) (.ret [.c (.b false)])))
def t_lUnOrder_15 : T :=
  .lets [.bin .eql (.v 31) (.c (.i .i64 0))] [] (.ite (.v 37) (.lets [.bin .eql (.v 34) (.c (.i .i64 0))] [] t_lUnOrder_9) (.lets [.bin .eql (.v 31) (.c (.i .i64 12))] []
  t_lUnOrder_14))
def t_lUnOrder_16 : T :=
  .lets [.bin .neq (.v 31) (.c (.i .i64 0))] [] (.ite (.v 35) t_lUnOrder_12 (.lets [.bin .neq (.v 34) (.c (.i .i64 0))] [] (.ite (.v 36) t_lUnOrder_15 (.lets [.call 26 [.v 29, .v 32]
  0] [] (.ret [.v 37])))))
def t_lUnOrder_17 : T :=
  .lets [.call 18 [.v 13, .v 1, .v 2, .v 3, .v 7, .v 9] 0, .call 18 [.v 13, .v 1, .v 2, .v 3, .v 7, .v 9] 1, .call 18 [.v 13, .v 1, .v 2, .v 3, .v 7, .v 9] 2] [] t_lUnOrder_16
def t_lUnOrder_18 : T :=
  .lets [.call 18 [.v 10, .v 4, .v 5, .v 6, .v 8, .v 9] 0, .call 18 [.v 10, .v 4, .v 5, .v 6, .v 8, .v 9] 1, .call 18 [.v 10, .v 4, .v 5, .v 6, .v 8, .v 9] 2] [] t_lUnOrder_17
def t_lUnOrder_19 : T :=
  .ite (.v 24) (.lets [] [.inr 3 (.v 2) (.v 23)] t_lUnOrder_5) (.lets [.len (.v 5)] [] (.loop [.v 22, .c (.i .i64 0)] (.lets [.bin .lss (.v 27) (.v 25)] [] (.ite (.v 28) t_lUnOrder_7
  t_lUnOrder_18))))
def t_lUnOrder_20 : T :=
  .ite (.v 20) (.lets [.call 20 [] 0] [] (.ret [.v 21])) (.lets [.len (.v 2)] [] (.loop [.c (.b false), .c (.i .i64 0)] (.lets [.bin .lss (.v 23) (.v 21)] [] t_lUnOrder_19)))
def t_lUnOrder_21 : T :=
  .ite (.v 18) (.lets [.call 20 [] 0] [] (.ret [.v 19])) (.lets [.bin .neq (.v 15) (.c (.i .i64 0))] [] (.ite (.v 19) (.lets [.call 20 [] 0] [] (.ret [.v 20])) (.lets [.bin .eql (.v
  7) (.v 8)] [] t_lUnOrder_20)))
def t_lUnOrder_22 : T :=
  .lets [.call 20 [] 0] [] (.lets [.not (.v 16)] [] (.ite (.v 17) (.lets [.call 20 [] 0] [] (.ret [.v 18])) (.lets [.bin .neq (.v 12) (.c (.i .i64 0))] [] t_lUnOrder_21)))
def t_lUnOrder_23 : T :=
  .lets [.call 18 [.v 0, .v 4, .v 5, .v 6, .v 8, .v 9] 0, .call 18 [.v 0, .v 4, .v 5, .v 6, .v 8, .v 9] 1, .call 18 [.v 0, .v 4, .v 5, .v 6, .v 8, .v 9] 2] [] t_lUnOrder_22
def t_lUnOrder : T :=
  .lets [.call 18 [.v 0, .v 1, .v 2, .v 3, .v 7, .v 9] 0, .call 18 [.v 0, .v 1, .v 2, .v 3, .v 7, .v 9] 1, .call 18 [.v 0, .v 1, .v 2, .v 3, .v 7, .v 9] 2] [] t_lUnOrder_23
theorem m_lUnOrder : Meets Try.prog sp_lUnOrder 14 ⟨[.one, .agg 3, .agg 3, .one, .one, .one], [(false, [.scal])], true⟩ := by
  refine meets_fin (sp := (spsOf [(18, sp_unApply), (20, sp_lThere), (26, sp_unSame)])) (sigs := sigsA) (cut := []) (hints := [⟨7, [.t 12, .t 65]⟩, ⟨13, [.t 12, .t 92]⟩]) (fns := [fnOf 53 Try.f53 [] [], fnOf 97 Try.f97 [⟨2, [.t 4, .t 8]⟩] [], fnOf 57 Try.f57 [] [], fnOf 58 Try.f58 [] []]) (dep := 7) (pool := 1000) (fn := Try.f14) (t := t_lUnOrder) (by kernel_rfl) (by kernel_rfl) (by kernel_rfl) ?_ ?_ ?_
  · exact (fnOk_cons (fn := Try.f53) (by kernel_rfl) (by kernel_rfl) (by kernel_rfl) (by kernel_rfl) (by kernel_rfl) (fnOk_cons (fn := Try.f97) (by kernel_rfl) (by kernel_rfl) (by kernel_rfl) (by kernel_rfl) (by kernel_rfl) (fnOk_cons (fn := Try.f57) (by kernel_rfl) (by kernel_rfl) (by kernel_rfl) (by kernel_rfl) (by kernel_rfl) (fnOk_cons (fn := Try.f58) (by kernel_rfl) (by kernel_rfl) (by kernel_rfl) (by kernel_rfl) (by kernel_rfl) fnOk_nil))))
  · exact (sig_of (L := [(18, sp_unApply), (20, sp_lThere), (26, sp_unSame)]) ⟨sig_at rfl m_unApply, sig_at rfl m_lThere, sig_at rfl m_unSame, trivial⟩)
  · rintro ds rs - h
    obtain ⟨⟨l, t, u, a, b, ht⟩, -, rfl, rfl⟩ := spD_some h
    clear h
    refine ⟨⟨t.ins.length + u.ins.length + 1, ?_⟩, scalOk_1 rfl⟩
    show den _ _ t_lUnOrder [.l 6 (l.map eCoin), I t.height, .l 3 (t.ins.map eIn), .l 2 (t.outs.map eOut), I u.height, .l 3 (u.ins.map eIn), .l 2 (u.outs.map eOut), I a, I b, I ht] [] = ret true
    unfold t_lUnOrder
    repeat' (first | refine den_let1 (by first | exact dx_eql rfl rfl | exact dx_neq rfl rfl | exact dx_lss rfl rfl | exact dx_gtr rfl rfl | exact dx_geq rfl rfl | exact dx_leq rfl rfl | exact dx_len rfl | exact den_add rfl rfl (by omega) | exact den_sub rfl rfl (by omega) | exact dx_idx rfl rfl (by omega) (by first | assumption | exact hx) rfl | exact den_call rfl (sp_unApply_at l t a ht) rfl | exact den_call rfl (sp_unApply_at l u b ht) rfl | exact den_call rfl (sp_lThere_at) rfl | exact dx_not rfl | exact dx_len0 rfl | exact dx_eqS rfl rfl | exact dx_neS rfl rfl | exact dx_eqB rfl rfl | exact dx_neB rfl rfl | exact dx_eqP rfl rfl rfl rfl | exact dx_neP rfl rfl rfl rfl | exact dx_neg rfl (by omega) | exact dx_cutl rfl rfl (by omega) (by omega) (by assumption) | exact den_mk (r := [[I _]]) rfl rfl (by simp) | exact dx_sel rfl rfl (by omega) rfl | exact dx_mn rfl rfl | exact dx_slen rfl | exact dx_app1 (fun _ => rfl) rfl rfl (by first | omega | (simp only [List.length_append, List.length_cons, List.length_nil]; omega))) ?_ | refine den_ck (by exact dx_inr rfl rfl (by omega) (by omega)) ?_ | refine den_lets (by first | exact dx_el rfl rfl (by omega) (by first | assumption | exact hx) (by rfl) | exact dx_calls rfl (sp_unApply_at l t a ht) (by rfl) | exact dx_calls rfl (sp_unApply_at l u b ht) (by rfl) | exact dx_calls rfl (sp_lThere_at) (by rfl) | exact denXs_cons (dx_idx rfl rfl (by omega) (by first | assumption | exact hx) rfl) (denXs_cons (dx_idx rfl rfl (by omega) (by first | assumption | exact hx) rfl) denXs_nil)) ?_ (by simp only [eCoin, eTx, eIn, eOut, eOp, ePoint, eInt, eStr, eBlock, eTree, eBook, eUndo, eBool, List.cons_append, List.nil_append]; try exact rfl) | exact den_ret rfl rfl | refine den_ifR rfl (by with_reducible rfl) (fun h => ?_) (fun h => ?_) | refine den_ifB rfl (by with_reducible rfl) (fun h => ?_) (fun h => ?_) | refine den_ifC rfl (by with_reducible rfl) (fun h => ?_) (fun h => ?_) | refine den_ifBn rfl (by with_reducible rfl) (fun h => ?_) (fun h => ?_) | refine den_ifF rfl (by with_reducible rfl) (fun h => ?_) (fun h => ?_) | refine den_ifFn rfl (by with_reducible rfl) (fun h => ?_) (fun h => ?_) | refine den_ifAndOr rfl (by with_reducible rfl) (fun h => ?_) (fun h => ?_) | refine den_ifOrAnd rfl (by with_reducible rfl) (fun h => ?_) (fun h => ?_) | refine den_ifAnd rfl (by with_reducible rfl) (fun h => ?_) (fun h => ?_) | refine den_ifOr rfl (by with_reducible rfl) (fun h => ?_) (fun h => ?_) | refine den_band rfl (by with_reducible rfl) (fun h => ?_) (fun h => ?_) | refine den_bor rfl (by with_reducible rfl) (fun h => ?_) (fun h => ?_) | refine den_T rfl (by first | assumption | omega) ?_ | refine den_F rfl (by first | assumption | omega) ?_ | refine den_t rfl ?_ | refine den_f rfl ?_ | refine den_sp rfl (fun h => ?_) (fun h => ?_))
    have h0 : (applyOf l t a ht).2.2 = 0 := Decidable.not_not.1 (by assumption)
    have h1 : (applyOf l u b ht).2.2 = 0 := Decidable.not_not.1 (by assumption)
    have hab : ¬ a = b := by assumption
    obtain ⟨r1, d1⟩ := apply_done h0
    obtain ⟨r2, d2⟩ := apply_done h1
    generalize (applyOf l t a ht).1 = x at *
    generalize (applyOf l t a ht).2.1 = s1 at *
    generalize (applyOf l u b ht).1 = y at *
    generalize (applyOf l u b ht).2.1 = s2 at *
    have hti := (txCheck_ok d1.tx).ins
    have hui := (txCheck_ok d2.tx).ins
    (refine den_range (fun (_ : Unit) k => [.b false, I k]) (fun (_ : Unit) _ (_ : List In) => true) (fun _ k => ∀ i ∈ t.ins.take k, (∀ j ∈ u.ins, ¬ j.p = i.p) ∧ i.p.tx ≠ b) () t.ins ?_ ?_ ?_ ?_ ?_; rfl; exact (fun x hx => by simp at hx); omega)
    · rintro _ k i xs hx hd hk hI again hag
      have hxi := hx
      repeat' (first | refine den_let1 (by first | exact dx_eql rfl rfl | exact dx_neq rfl rfl | exact dx_lss rfl rfl | exact dx_gtr rfl rfl | exact dx_geq rfl rfl | exact dx_leq rfl rfl | exact dx_len rfl | exact den_add rfl rfl (by omega) | exact den_sub rfl rfl (by omega) | exact dx_idx rfl rfl (by omega) (by first | assumption | exact hx) rfl | exact dx_not rfl | exact dx_len0 rfl | exact dx_eqS rfl rfl | exact dx_neS rfl rfl | exact dx_eqB rfl rfl | exact dx_neB rfl rfl | exact dx_eqP rfl rfl rfl rfl | exact dx_neP rfl rfl rfl rfl | exact dx_neg rfl (by omega) | exact dx_cutl rfl rfl (by omega) (by omega) (by assumption) | exact den_mk (r := [[I _]]) rfl rfl (by simp) | exact dx_sel rfl rfl (by omega) rfl | exact dx_mn rfl rfl | exact dx_slen rfl | exact dx_app1 (fun _ => rfl) rfl rfl (by first | omega | (simp only [List.length_append, List.length_cons, List.length_nil]; omega))) ?_ | refine den_ck (by exact dx_inr rfl rfl (by omega) (by omega)) ?_ | refine den_lets (by first | exact dx_el rfl rfl (by omega) (by first | assumption | exact hx) (by rfl) | exact denXs_cons (dx_idx rfl rfl (by omega) (by first | assumption | exact hx) rfl) (denXs_cons (dx_idx rfl rfl (by omega) (by first | assumption | exact hx) rfl) denXs_nil)) ?_ (by simp only [eCoin, eTx, eIn, eOut, eOp, ePoint, eInt, eStr, eBlock, eTree, eBook, eUndo, eBool, List.cons_append, List.nil_append]; try exact rfl) | exact den_ret rfl rfl | refine den_ifR rfl (by with_reducible rfl) (fun h => ?_) (fun h => ?_) | refine den_ifB rfl (by with_reducible rfl) (fun h => ?_) (fun h => ?_) | refine den_ifC rfl (by with_reducible rfl) (fun h => ?_) (fun h => ?_) | refine den_ifBn rfl (by with_reducible rfl) (fun h => ?_) (fun h => ?_) | refine den_ifF rfl (by with_reducible rfl) (fun h => ?_) (fun h => ?_) | refine den_ifFn rfl (by with_reducible rfl) (fun h => ?_) (fun h => ?_) | refine den_ifAndOr rfl (by with_reducible rfl) (fun h => ?_) (fun h => ?_) | refine den_ifOrAnd rfl (by with_reducible rfl) (fun h => ?_) (fun h => ?_) | refine den_ifAnd rfl (by with_reducible rfl) (fun h => ?_) (fun h => ?_) | refine den_ifOr rfl (by with_reducible rfl) (fun h => ?_) (fun h => ?_) | refine den_band rfl (by with_reducible rfl) (fun h => ?_) (fun h => ?_) | refine den_bor rfl (by with_reducible rfl) (fun h => ?_) (fun h => ?_) | refine den_T rfl (by first | assumption | omega) ?_ | refine den_F rfl (by first | assumption | omega) ?_ | refine den_t rfl ?_ | refine den_f rfl ?_ | refine den_sp rfl (fun h => ?_) (fun h => ?_))
      (refine den_range (fun (_ : Unit) k => [I 0, I k]) (fun (_ : Unit) _ (_ : List In) => true) (fun _ k => ∀ j ∈ u.ins.take k, ¬ j.p = i.p) () u.ins ?_ ?_ ?_ ?_ ?_; rfl; exact (fun x hx => by simp at hx); omega)
      · rintro _ k j xs hx hd hk hJ again' hag'
        repeat' (first | refine den_let1 (by first | exact dx_eql rfl rfl | exact dx_neq rfl rfl | exact dx_lss rfl rfl | exact dx_gtr rfl rfl | exact dx_geq rfl rfl | exact dx_leq rfl rfl | exact dx_len rfl | exact den_add rfl rfl (by omega) | exact den_sub rfl rfl (by omega) | exact dx_idx rfl rfl (by omega) (by first | assumption | exact hx) rfl | exact dx_not rfl | exact dx_len0 rfl | exact dx_eqS rfl rfl | exact dx_neS rfl rfl | exact dx_eqB rfl rfl | exact dx_neB rfl rfl | exact dx_eqP rfl rfl rfl rfl | exact dx_neP rfl rfl rfl rfl | exact dx_neg rfl (by omega) | exact dx_cutl rfl rfl (by omega) (by omega) (by assumption) | exact den_mk (r := [[I _]]) rfl rfl (by simp) | exact dx_sel rfl rfl (by omega) rfl | exact dx_mn rfl rfl | exact dx_slen rfl | exact dx_app1 (fun _ => rfl) rfl rfl (by first | omega | (simp only [List.length_append, List.length_cons, List.length_nil]; omega))) ?_ | refine den_ck (by exact dx_inr rfl rfl (by omega) (by omega)) ?_ | refine den_lets (by first | exact dx_el rfl rfl (by omega) (by first | assumption | exact hx) (by rfl) | exact denXs_cons (dx_idx rfl rfl (by omega) (by first | assumption | exact hx) rfl) (denXs_cons (dx_idx rfl rfl (by omega) (by first | assumption | exact hx) rfl) denXs_nil)) ?_ (by simp only [eCoin, eTx, eIn, eOut, eOp, ePoint, eInt, eStr, eBlock, eTree, eBook, eUndo, eBool, List.cons_append, List.nil_append]; try exact rfl) | exact den_ret rfl rfl | refine den_ifR rfl (by with_reducible rfl) (fun h => ?_) (fun h => ?_) | refine den_ifB rfl (by with_reducible rfl) (fun h => ?_) (fun h => ?_) | refine den_ifC rfl (by with_reducible rfl) (fun h => ?_) (fun h => ?_) | refine den_ifBn rfl (by with_reducible rfl) (fun h => ?_) (fun h => ?_) | refine den_ifF rfl (by with_reducible rfl) (fun h => ?_) (fun h => ?_) | refine den_ifFn rfl (by with_reducible rfl) (fun h => ?_) (fun h => ?_) | refine den_ifAndOr rfl (by with_reducible rfl) (fun h => ?_) (fun h => ?_) | refine den_ifOrAnd rfl (by with_reducible rfl) (fun h => ?_) (fun h => ?_) | refine den_ifAnd rfl (by with_reducible rfl) (fun h => ?_) (fun h => ?_) | refine den_ifOr rfl (by with_reducible rfl) (fun h => ?_) (fun h => ?_) | refine den_band rfl (by with_reducible rfl) (fun h => ?_) (fun h => ?_) | refine den_bor rfl (by with_reducible rfl) (fun h => ?_) (fun h => ?_) | refine den_T rfl (by first | assumption | omega) ?_ | refine den_F rfl (by first | assumption | omega) ?_ | refine den_t rfl ?_ | refine den_f rfl ?_ | refine den_sp rfl (fun h => ?_) (fun h => ?_))
        all_goals exact den_again rfl rfl (hag' () (all_take hJ hx (by assumption)))
      · rintro _ hJ again'
        rw [List.take_length] at hJ
        repeat' (first | refine den_let1 (by first | exact dx_eql rfl rfl | exact dx_neq rfl rfl | exact dx_lss rfl rfl | exact dx_gtr rfl rfl | exact dx_geq rfl rfl | exact dx_leq rfl rfl | exact dx_len rfl | exact den_add rfl rfl (by omega) | exact den_sub rfl rfl (by omega) | exact dx_idx rfl rfl (by omega) (by first | assumption | exact hx) rfl | exact dx_not rfl | exact dx_len0 rfl | exact dx_eqS rfl rfl | exact dx_neS rfl rfl | exact dx_eqB rfl rfl | exact dx_neB rfl rfl | exact dx_eqP rfl rfl rfl rfl | exact dx_neP rfl rfl rfl rfl | exact dx_neg rfl (by omega) | exact dx_cutl rfl rfl (by omega) (by omega) (by assumption) | exact den_mk (r := [[I _]]) rfl rfl (by simp) | exact dx_sel rfl rfl (by omega) rfl | exact dx_mn rfl rfl | exact dx_slen rfl | exact dx_app1 (fun _ => rfl) rfl rfl (by first | omega | (simp only [List.length_append, List.length_cons, List.length_nil]; omega))) ?_ | refine den_ck (by exact dx_inr rfl rfl (by omega) (by omega)) ?_ | refine den_lets (by first | exact dx_el rfl rfl (by omega) (by first | assumption | exact hx) (by rfl) | exact denXs_cons (dx_idx rfl rfl (by omega) (by first | assumption | exact hx) rfl) (denXs_cons (dx_idx rfl rfl (by omega) (by first | assumption | exact hx) rfl) denXs_nil)) ?_ (by simp only [eCoin, eTx, eIn, eOut, eOp, ePoint, eInt, eStr, eBlock, eTree, eBook, eUndo, eBool, List.cons_append, List.nil_append]; try exact rfl) | exact den_ret rfl rfl | refine den_ifR rfl (by with_reducible rfl) (fun h => ?_) (fun h => ?_) | refine den_ifB rfl (by with_reducible rfl) (fun h => ?_) (fun h => ?_) | refine den_ifC rfl (by with_reducible rfl) (fun h => ?_) (fun h => ?_) | refine den_ifBn rfl (by with_reducible rfl) (fun h => ?_) (fun h => ?_) | refine den_ifF rfl (by with_reducible rfl) (fun h => ?_) (fun h => ?_) | refine den_ifFn rfl (by with_reducible rfl) (fun h => ?_) (fun h => ?_) | refine den_ifAndOr rfl (by with_reducible rfl) (fun h => ?_) (fun h => ?_) | refine den_ifOrAnd rfl (by with_reducible rfl) (fun h => ?_) (fun h => ?_) | refine den_ifAnd rfl (by with_reducible rfl) (fun h => ?_) (fun h => ?_) | refine den_ifOr rfl (by with_reducible rfl) (fun h => ?_) (fun h => ?_) | refine den_band rfl (by with_reducible rfl) (fun h => ?_) (fun h => ?_) | refine den_bor rfl (by with_reducible rfl) (fun h => ?_) (fun h => ?_) | refine den_T rfl (by first | assumption | omega) ?_ | refine den_F rfl (by first | assumption | omega) ?_ | refine den_t rfl ?_ | refine den_f rfl ?_ | refine den_sp rfl (fun h => ?_) (fun h => ?_))
        all_goals exact den_again rfl rfl (hag () (all_take hI hxi ⟨hJ, by assumption⟩))
    · rintro _ hI again
      rw [List.take_length] at hI
      repeat' (first | refine den_let1 (by first | exact dx_eql rfl rfl | exact dx_neq rfl rfl | exact dx_lss rfl rfl | exact dx_gtr rfl rfl | exact dx_geq rfl rfl | exact dx_leq rfl rfl | exact dx_len rfl | exact den_add rfl rfl (by omega) | exact den_sub rfl rfl (by omega) | exact dx_idx rfl rfl (by omega) (by first | assumption | exact hx) rfl | exact dx_not rfl | exact dx_len0 rfl | exact dx_eqS rfl rfl | exact dx_neS rfl rfl | exact dx_eqB rfl rfl | exact dx_neB rfl rfl | exact dx_eqP rfl rfl rfl rfl | exact dx_neP rfl rfl rfl rfl | exact dx_neg rfl (by omega) | exact dx_cutl rfl rfl (by omega) (by omega) (by assumption) | exact den_mk (r := [[I _]]) rfl rfl (by simp) | exact dx_sel rfl rfl (by omega) rfl | exact dx_mn rfl rfl | exact dx_slen rfl | exact dx_app1 (fun _ => rfl) rfl rfl (by first | omega | (simp only [List.length_append, List.length_cons, List.length_nil]; omega))) ?_ | refine den_ck (by exact dx_inr rfl rfl (by omega) (by omega)) ?_ | refine den_lets (by first | exact dx_el rfl rfl (by omega) (by first | assumption | exact hx) (by rfl) | exact denXs_cons (dx_idx rfl rfl (by omega) (by first | assumption | exact hx) rfl) (denXs_cons (dx_idx rfl rfl (by omega) (by first | assumption | exact hx) rfl) denXs_nil)) ?_ (by simp only [eCoin, eTx, eIn, eOut, eOp, ePoint, eInt, eStr, eBlock, eTree, eBook, eUndo, eBool, List.cons_append, List.nil_append]; try exact rfl) | exact den_ret rfl rfl | refine den_ifR rfl (by with_reducible rfl) (fun h => ?_) (fun h => ?_) | refine den_ifB rfl (by with_reducible rfl) (fun h => ?_) (fun h => ?_) | refine den_ifC rfl (by with_reducible rfl) (fun h => ?_) (fun h => ?_) | refine den_ifBn rfl (by with_reducible rfl) (fun h => ?_) (fun h => ?_) | refine den_ifF rfl (by with_reducible rfl) (fun h => ?_) (fun h => ?_) | refine den_ifFn rfl (by with_reducible rfl) (fun h => ?_) (fun h => ?_) | refine den_ifAndOr rfl (by with_reducible rfl) (fun h => ?_) (fun h => ?_) | refine den_ifOrAnd rfl (by with_reducible rfl) (fun h => ?_) (fun h => ?_) | refine den_ifAnd rfl (by with_reducible rfl) (fun h => ?_) (fun h => ?_) | refine den_ifOr rfl (by with_reducible rfl) (fun h => ?_) (fun h => ?_) | refine den_band rfl (by with_reducible rfl) (fun h => ?_) (fun h => ?_) | refine den_bor rfl (by with_reducible rfl) (fun h => ?_) (fun h => ?_) | refine den_T rfl (by first | assumption | omega) ?_ | refine den_F rfl (by first | assumption | omega) ?_ | refine den_t rfl ?_ | refine den_f rfl ?_ | refine den_sp rfl (fun h => ?_) (fun h => ?_))
      (refine den_range (fun (_ : Unit) k => [.b false, I k]) (fun (_ : Unit) _ (_ : List In) => true) (fun _ k => ∀ j ∈ u.ins.take k, j.p.tx ≠ a) () u.ins ?_ ?_ ?_ ?_ ?_; rfl; exact (fun x hx => by simp at hx); omega)
      · rintro _ k j xs hx hd hk hJ again' hag'
        repeat' (first | refine den_let1 (by first | exact dx_eql rfl rfl | exact dx_neq rfl rfl | exact dx_lss rfl rfl | exact dx_gtr rfl rfl | exact dx_geq rfl rfl | exact dx_leq rfl rfl | exact dx_len rfl | exact den_add rfl rfl (by omega) | exact den_sub rfl rfl (by omega) | exact dx_idx rfl rfl (by omega) (by first | assumption | exact hx) rfl | exact dx_not rfl | exact dx_len0 rfl | exact dx_eqS rfl rfl | exact dx_neS rfl rfl | exact dx_eqB rfl rfl | exact dx_neB rfl rfl | exact dx_eqP rfl rfl rfl rfl | exact dx_neP rfl rfl rfl rfl | exact dx_neg rfl (by omega) | exact dx_cutl rfl rfl (by omega) (by omega) (by assumption) | exact den_mk (r := [[I _]]) rfl rfl (by simp) | exact dx_sel rfl rfl (by omega) rfl | exact dx_mn rfl rfl | exact dx_slen rfl | exact dx_app1 (fun _ => rfl) rfl rfl (by first | omega | (simp only [List.length_append, List.length_cons, List.length_nil]; omega))) ?_ | refine den_ck (by exact dx_inr rfl rfl (by omega) (by omega)) ?_ | refine den_lets (by first | exact dx_el rfl rfl (by omega) (by first | assumption | exact hx) (by rfl) | exact denXs_cons (dx_idx rfl rfl (by omega) (by first | assumption | exact hx) rfl) (denXs_cons (dx_idx rfl rfl (by omega) (by first | assumption | exact hx) rfl) denXs_nil)) ?_ (by simp only [eCoin, eTx, eIn, eOut, eOp, ePoint, eInt, eStr, eBlock, eTree, eBook, eUndo, eBool, List.cons_append, List.nil_append]; try exact rfl) | exact den_ret rfl rfl | refine den_ifR rfl (by with_reducible rfl) (fun h => ?_) (fun h => ?_) | refine den_ifB rfl (by with_reducible rfl) (fun h => ?_) (fun h => ?_) | refine den_ifC rfl (by with_reducible rfl) (fun h => ?_) (fun h => ?_) | refine den_ifBn rfl (by with_reducible rfl) (fun h => ?_) (fun h => ?_) | refine den_ifF rfl (by with_reducible rfl) (fun h => ?_) (fun h => ?_) | refine den_ifFn rfl (by with_reducible rfl) (fun h => ?_) (fun h => ?_) | refine den_ifAndOr rfl (by with_reducible rfl) (fun h => ?_) (fun h => ?_) | refine den_ifOrAnd rfl (by with_reducible rfl) (fun h => ?_) (fun h => ?_) | refine den_ifAnd rfl (by with_reducible rfl) (fun h => ?_) (fun h => ?_) | refine den_ifOr rfl (by with_reducible rfl) (fun h => ?_) (fun h => ?_) | refine den_band rfl (by with_reducible rfl) (fun h => ?_) (fun h => ?_) | refine den_bor rfl (by with_reducible rfl) (fun h => ?_) (fun h => ?_) | refine den_T rfl (by first | assumption | omega) ?_ | refine den_F rfl (by first | assumption | omega) ?_ | refine den_t rfl ?_ | refine den_f rfl ?_ | refine den_sp rfl (fun h => ?_) (fun h => ?_))
        all_goals exact den_again rfl rfl (hag' () (all_take hJ hx (by assumption)))
      · rintro _ hJ again'
        rw [List.take_length] at hJ
        obtain ⟨c1, c2, c3⟩ := both_order d1 d2 hab (fun i hi j hj => (hI i hi).1 j hj) (fun i hi => (hI i hi).2) hJ
        have b1 := sp_unApply_at x u b ht
        have b2 := sp_unApply_at y t a ht
        generalize (applyOf x u b ht).2.2 = e at *
        generalize (applyOf y t a ht).2.2 = f at *
        generalize (applyOf x u b ht).1 = v at *
        generalize (applyOf y t a ht).1 = w at *
        repeat' (first | refine den_let1 (by first | exact dx_eql rfl rfl | exact dx_neq rfl rfl | exact dx_lss rfl rfl | exact dx_gtr rfl rfl | exact dx_geq rfl rfl | exact dx_leq rfl rfl | exact dx_len rfl | exact den_add rfl rfl (by omega) | exact den_sub rfl rfl (by omega) | exact dx_idx rfl rfl (by omega) (by first | assumption | exact hx) rfl | exact den_call rfl (b1) rfl | exact den_call rfl (b2) rfl | exact den_call rfl (sp_unSame_at v w) rfl | exact dx_not rfl | exact dx_len0 rfl | exact dx_eqS rfl rfl | exact dx_neS rfl rfl | exact dx_eqB rfl rfl | exact dx_neB rfl rfl | exact dx_eqP rfl rfl rfl rfl | exact dx_neP rfl rfl rfl rfl | exact dx_neg rfl (by omega) | exact dx_cutl rfl rfl (by omega) (by omega) (by assumption) | exact den_mk (r := [[I _]]) rfl rfl (by simp) | exact dx_sel rfl rfl (by omega) rfl | exact dx_mn rfl rfl | exact dx_slen rfl | exact dx_app1 (fun _ => rfl) rfl rfl (by first | omega | (simp only [List.length_append, List.length_cons, List.length_nil]; omega))) ?_ | refine den_ck (by exact dx_inr rfl rfl (by omega) (by omega)) ?_ | refine den_lets (by first | exact dx_el rfl rfl (by omega) (by first | assumption | exact hx) (by rfl) | exact dx_calls rfl (b1) (by rfl) | exact dx_calls rfl (b2) (by rfl) | exact dx_calls rfl (sp_unSame_at v w) (by rfl) | exact denXs_cons (dx_idx rfl rfl (by omega) (by first | assumption | exact hx) rfl) (denXs_cons (dx_idx rfl rfl (by omega) (by first | assumption | exact hx) rfl) denXs_nil)) ?_ (by simp only [eCoin, eTx, eIn, eOut, eOp, ePoint, eInt, eStr, eBlock, eTree, eBook, eUndo, eBool, List.cons_append, List.nil_append]; try exact rfl) | exact den_ret rfl rfl | refine den_ifR rfl (by with_reducible rfl) (fun h => ?_) (fun h => ?_) | refine den_ifB rfl (by with_reducible rfl) (fun h => ?_) (fun h => ?_) | refine den_ifC rfl (by with_reducible rfl) (fun h => ?_) (fun h => ?_) | refine den_ifBn rfl (by with_reducible rfl) (fun h => ?_) (fun h => ?_) | refine den_ifF rfl (by with_reducible rfl) (fun h => ?_) (fun h => ?_) | refine den_ifFn rfl (by with_reducible rfl) (fun h => ?_) (fun h => ?_) | refine den_ifAndOr rfl (by with_reducible rfl) (fun h => ?_) (fun h => ?_) | refine den_ifOrAnd rfl (by with_reducible rfl) (fun h => ?_) (fun h => ?_) | refine den_ifAnd rfl (by with_reducible rfl) (fun h => ?_) (fun h => ?_) | refine den_ifOr rfl (by with_reducible rfl) (fun h => ?_) (fun h => ?_) | refine den_band rfl (by with_reducible rfl) (fun h => ?_) (fun h => ?_) | refine den_bor rfl (by with_reducible rfl) (fun h => ?_) (fun h => ?_) | refine den_T rfl (by first | assumption | omega) ?_ | refine den_F rfl (by first | assumption | omega) ?_ | refine den_t rfl ?_ | refine den_f rfl ?_ | refine den_sp rfl (fun h => ?_) (fun h => ?_))
        all_goals first
          | exact den_ret rfl (by rw [decide_eq_true (by omega)]; rfl)
          | exact den_ret rfl (by rw [decide_eq_true (c3 (by omega) (by omega))]; rfl)
          | (exfalso; omega)
theorem unspentOrder_walk (l : List (Coin)) (A_l : Option Addr) (n_l c_l : Nat) (t : Tx) (c_t : List Value) (u : Tx) (c_u : List Value) (a : Int) (b : Int) (ht : Int) (w : World) (h_l : Rds shCoin w (Lt w.heap.size) l A_l n_l c_l) (h_t : shTx.rep w (Lt w.heap.size) t c_t) (h_u : shTx.rep w (Lt w.heap.size) u c_u) (a_0 : -9223372036854775808 ≤ a) (a_1 : a ≤ 9223372036854775807) (b_0 : -9223372036854775808 ≤ b) (b_1 : b ≤ 9223372036854775807) (ht_0 : -9223372036854775808 ≤ ht) (ht_1 : ht ≤ 9223372036854775807) :
    Calls Try.prog 14 #[.slice A_l n_l c_l, .agg c_t.toArray, .agg c_u.toArray, .int .i64 a, .int .i64 b, .int .i64 ht] w fun e w' => e = .returned (.bool true) ∧ Below w.heap.size w w' :=
  meets_calls (F := Lt w.heap.size) (us := [.slice A_l n_l c_l, .agg c_t.toArray, .agg c_u.toArray, .int .i64 a, .int .i64 b, .int .i64 ht]) rfl (en_of (fn := Try.f14) (by kernel_rfl) (by kernel_rfl) (by kernel_rfl)) m_lUnOrder (fun _ h => h) (spD_at (f := fun _ => true) (l, t, u, a, b, ht) trivial)
    (pks_mk_one (rds_rep she_coin h_l) (pks_mk_agg (d1 := eTx t) (she_tx.to h_t) rfl (pks_mk_agg (d1 := eTx u) (she_tx.to h_u) rfl (pks_mk_one (.i _ _ (wrap_i64 ⟨a_0, a_1⟩)) (pks_mk_one (.i _ _ (wrap_i64 ⟨b_0, b_1⟩)) (pks_mk_one (.i _ _ (wrap_i64 ⟨ht_0, ht_1⟩)) pks_mk_nil))))))
end Go.Proofs.Ytnnbnjanekibpaa
namespace Go.Proofs.Ytnnbnjanekibpaa
open Go.RowKit
set_option linter.unusedVariables false
set_option linter.unusedSimpArgs false
set_option maxRecDepth 100000
set_option maxHeartbeats 4000000
noncomputable def sp_rCheckOps : Spec := spD (fun _ : List Op => True) fun l => opsCheck l
theorem sp_rCheckOps_at (l : List Op) : sp_rCheckOps [.l 2 (l.map eOp)] = some [I (opsCheck l)] := spD_at (f := fun l : List Op => opsCheck l) l trivial
theorem m_rCheckOps : Meets Try.prog sp_rCheckOps 101 ⟨[.one], [(false, [.scal])], true⟩ :=
  meets_scal2 (e := fun x : { x : List Op // True } => Enc.e x.1) (d := fun x => I (opsCheck x.1)) rfl (en_of (fn := Try.f101) (by kernel_rfl) (by kernel_rfl) (by kernel_rfl)) (fun _ => rfl) fun x W F us hF h => by
    obtain ⟨v, us, rfl, h1, h⟩ := pks_one h
    obtain rfl := pks_nil h
    obtain ⟨A, n, c, rfl, k1⟩ := rep_rds she_op h1
    exact (refOps_any x.1 A n c W F k1 hF).mono fun e w' h => ⟨_, h.1, h.2, .i _ _ (wrap_i64 (er_ops x.1).i64)⟩
noncomputable def sp_rBefore : Spec := spD (fun _ : Point × Point => True) fun x => decide (ltP x.1 x.2)
theorem sp_rBefore_at (p q : Point) : sp_rBefore [I p.tx, I p.at_, I q.tx, I q.at_] = some [.b (decide (ltP p q))] := spD_at (f := fun x : Point × Point => decide (ltP x.1 x.2)) (p, q) trivial
attribute [local irreducible] specOf spD ordP
def t_rCheckCoins_0 : T :=
  .lets [.bin .gtr (.v 30) (.c (.i .i64 1000000000))] [] (.ite (.v 31) (.ret [.c (.i .i64 12)]) (.lets [.bin .add (.v 6) (.c (.i .i64 1))] [] (.again 0 [.v 30, .v 5, .v 32])))
def t_rCheckCoins_1 : T :=
  .lets [.call 29 [.v 26, .v 27, .v 8, .v 9] 0] [] (.lets [.not (.v 28)] [] (.ite (.v 29) (.ret [.c (.i .i64 6)]) (.lets [.bin .add (.v 4) (.v 10)] [] t_rCheckCoins_0)))
def t_rCheckCoins_2 : T :=
  .lets [.bin .gtr (.v 25) (.c (.i .i64 1000000000))] [] (.ite (.v 26) (.ret [.c (.i .i64 12)]) (.lets [.bin .add (.v 6) (.c (.i .i64 1))] [] (.again 0 [.v 25, .v 5, .v 27])))
def t_rCheckCoins_3 : T :=
  .ite (.v 24) (.lets [.bin .sub (.v 6) (.c (.i .i64 1))] [] (.lets [] [.inr 6 (.v 0) (.v 25)] (.lets [.idx (.v 0) (.v 25) 0, .idx (.v 0) (.v 25) 1] [] t_rCheckCoins_1))) (.lets [.bin
  .add (.v 4) (.v 10)] [] t_rCheckCoins_2)
def t_rCheckCoins_4 : T :=
  .lets [.call 28 [.v 11] 0] [] (.lets [.bin .neq (.v 22) (.c (.i .i64 0))] [] (.ite (.v 23) (.ret [.v 22]) (.lets [.bin .gtr (.v 6) (.c (.i .i64 0))] [] t_rCheckCoins_3)))
def t_rCheckCoins_5 : T :=
  .lets [.bin .lss (.v 12) (.c (.i .i64 1))] [] (.ite (.v 20) (.ret [.c (.i .i64 3)]) (.lets [.bin .gtr (.v 12) (.c (.i .i64 1000))] [] (.ite (.v 21) (.ret [.c (.i .i64 3)])
  t_rCheckCoins_4)))
def t_rCheckCoins_6 : T :=
  .lets [.bin .lss (.v 10) (.c (.i .i64 1))] [] (.ite (.v 18) (.ret [.c (.i .i64 3)]) (.lets [.bin .gtr (.v 10) (.c (.i .i64 1000000000))] [] (.ite (.v 19) (.ret [.c (.i .i64 3)])
  t_rCheckCoins_5)))
def t_rCheckCoins_7 : T :=
  .lets [.bin .lss (.v 9) (.c (.i .i64 0))] [] (.ite (.v 16) (.ret [.c (.i .i64 3)]) (.lets [.bin .gtr (.v 9) (.c (.i .i64 5))] [] (.ite (.v 17) (.ret [.c (.i .i64 3)])
  t_rCheckCoins_6)))
def t_rCheckCoins_8 : T :=
  .lets [.bin .lss (.v 8) (.c (.i .i64 1))] [] (.ite (.v 14) (.ret [.c (.i .i64 3)]) (.lets [.bin .gtr (.v 8) (.c (.i .i64 120))] [] (.ite (.v 15) (.ret [.c (.i .i64 3)])
  t_rCheckCoins_7)))
def t_rCheckCoins_9 : T :=
  .lets [] [.inr 6 (.v 0) (.v 6)] (.lets [.idx (.v 0) (.v 6) 0, .idx (.v 0) (.v 6) 1, .idx (.v 0) (.v 6) 2, .idx (.v 0) (.v 6) 3, .idx (.v 0) (.v 6) 4, .idx (.v 0) (.v 6) 5] []
  t_rCheckCoins_8)
def t_rCheckCoins_10 : T :=
  .lets [.len (.v 0)] [] (.loop [.c (.i .i64 0), .c (.i .i64 0), .c (.i .i64 0)] (.lets [.bin .lss (.v 6) (.v 3)] [] (.ite (.v 7) t_rCheckCoins_9 (.ret [.c (.i .i64 0)]))))
def t_rCheckCoins : T :=
  .lets [.len (.v 0)] [] (.lets [.bin .gtr (.v 1) (.c (.i .i64 720))] [] (.ite (.v 2) (.ret [.c (.i .i64 2)]) t_rCheckCoins_10))
theorem ltP_dec (p q : Point) : (decide (p.tx < q.tx) || (decide (p.tx = q.tx) && decide (p.at_ < q.at_))) = decide (ltP p q) := by
  unfold ltP
  by_cases h1 : p.tx < q.tx <;> by_cases h2 : p.tx = q.tx <;> by_cases h3 : p.at_ < q.at_ <;> simp [h1, h2, h3]
theorem m_rBefore : Meets Try.prog sp_rBefore 102 ⟨[.agg 2, .agg 2], [(false, [.scal])], true⟩ := by
  refine meets_fast (sp := (spsOf [])) (sigs := sigsA) (cut := []) (hints := []) (fn := Try.f102) (t := t_rBefore) (by kernel_rfl) (by kernel_rfl) (by kernel_rfl) ?_ ?_
  · exact (sig_of (L := []) trivial)
  · rintro ds rs - h
    obtain ⟨⟨p, q⟩, -, rfl, rfl⟩ := spD_some h
    clear h
    refine ⟨⟨1, ?_⟩, scalOk_1 rfl⟩
    show den _ _ t_rBefore [I p.tx, I p.at_, I q.tx, I q.at_] [] = ret (decide (ltP p q))
    rw [← ltP_dec]
    unfold t_rBefore
    repeat' (first | refine den_let1 (by first | exact dx_eql rfl rfl | exact dx_neq rfl rfl | exact dx_lss rfl rfl | exact dx_gtr rfl rfl | exact dx_geq rfl rfl | exact dx_leq rfl rfl | exact dx_len rfl | exact den_add rfl rfl (by omega) | exact den_sub rfl rfl (by omega) | exact dx_idx rfl rfl (by omega) (by first | assumption | exact hx) rfl | exact dx_not rfl | exact dx_len0 rfl | exact dx_eqS rfl rfl | exact dx_neS rfl rfl | exact dx_eqB rfl rfl | exact dx_neB rfl rfl | exact dx_eqP rfl rfl rfl rfl | exact dx_neP rfl rfl rfl rfl | exact dx_neg rfl (by omega) | exact dx_cutl rfl rfl (by omega) (by omega) (by assumption) | exact den_mk (r := [[I _]]) rfl rfl (by simp) | exact dx_sel rfl rfl (by omega) rfl | exact dx_mn rfl rfl | exact dx_slen rfl | exact dx_app1 (fun _ => rfl) rfl rfl (by first | omega | (simp only [List.length_append, List.length_cons, List.length_nil]; omega))) ?_ | refine den_ck (by exact dx_inr rfl rfl (by omega) (by omega)) ?_ | refine den_lets (by first | exact dx_el rfl rfl (by omega) (by first | assumption | exact hx) (by rfl) | exact denXs_cons (dx_idx rfl rfl (by omega) (by first | assumption | exact hx) rfl) (denXs_cons (dx_idx rfl rfl (by omega) (by first | assumption | exact hx) rfl) denXs_nil)) ?_ (by simp only [eCoin, eTx, eIn, eOut, eOp, ePoint, eInt, eStr, eBlock, eTree, eBook, eUndo, eBool, List.cons_append, List.nil_append]; try exact rfl) | exact den_ret rfl rfl | refine den_ifR rfl (by with_reducible rfl) (fun h => ?_) (fun h => ?_) | refine den_ifB rfl (by with_reducible rfl) (fun h => ?_) (fun h => ?_) | refine den_ifC rfl (by with_reducible rfl) (fun h => ?_) (fun h => ?_) | refine den_ifBn rfl (by with_reducible rfl) (fun h => ?_) (fun h => ?_) | refine den_ifF rfl (by with_reducible rfl) (fun h => ?_) (fun h => ?_) | refine den_ifFn rfl (by with_reducible rfl) (fun h => ?_) (fun h => ?_) | refine den_ifAndOr rfl (by with_reducible rfl) (fun h => ?_) (fun h => ?_) | refine den_ifOrAnd rfl (by with_reducible rfl) (fun h => ?_) (fun h => ?_) | refine den_ifAnd rfl (by with_reducible rfl) (fun h => ?_) (fun h => ?_) | refine den_ifOr rfl (by with_reducible rfl) (fun h => ?_) (fun h => ?_) | refine den_band rfl (by with_reducible rfl) (fun h => ?_) (fun h => ?_) | refine den_bor rfl (by with_reducible rfl) (fun h => ?_) (fun h => ?_) | refine den_T rfl (by first | assumption | omega) ?_ | refine den_F rfl (by first | assumption | omega) ?_ | refine den_t rfl ?_ | refine den_f rfl ?_)
def coinsGoR : Point → Int → List Coin → Int
  | _, _, [] => 0
  | pv, s, c :: r => if c.p.tx < 1 ∨ 120 < c.p.tx ∨ c.p.at_ < 0 ∨ 5 < c.p.at_ ∨ c.o.coin < 1 ∨ 1000000000 < c.o.coin ∨ c.height < 1 ∨ 1000 < c.height then 3
    else if opsCheck c.o.lock ≠ 0 then opsCheck c.o.lock else if decide (ltP pv c.p) = true then (if 1000000000 < s + c.o.coin then 12 else coinsGoR c.p (s + c.o.coin) r) else 6
theorem coinsGoR_eq : ∀ (l : List Coin) (p : Point) (s : Int), coinsGoR p s l = coinsGo p s l
  | [], p, s => rfl
  | c :: l, p, s => by
    rw [coinsGoR, coinsGo, coinsGoR_eq l]
    have e : 5 < c.p.at_ ↔ 6 ≤ c.p.at_ := by omega
    have ho := ordP_lt p c.p
    simp only [e]
    by_cases h : ltP p c.p
    · have := ho.2 h
      rw [if_pos (c := decide (ltP p c.p) = true) (by simpa using h), if_neg (c := 0 ≤ ordP p c.p) (by omega)]
    · have : ¬ ordP p c.p < 0 := fun hh => h (ho.1 hh)
      rw [if_neg (c := decide (ltP p c.p) = true) (by simpa using h), if_pos (c := 0 ≤ ordP p c.p) (by omega)]
noncomputable def sp_rCheckCoins : Spec := spD (fun _ : List Coin => True) fun l => coinsCheck l
theorem sp_rCheckCoins_at (l : List Coin) : sp_rCheckCoins [.l 6 (l.map eCoin)] = some [I (coinsCheck l)] := spD_at (f := fun l : List Coin => coinsCheck l) l trivial
theorem m_rCheckCoins : Meets Try.prog sp_rCheckCoins 63 ⟨[.one], [(false, [.scal])], true⟩ := by
  refine meets_fast (sp := (spsOf [(28, sp_rCheckOps), (29, sp_rBefore)])) (sigs := sigsA) (cut := []) (hints := [⟨5, [.t 3, .t 2, .t 12]⟩]) (fn := Try.f63) (t := t_rCheckCoins) (by kernel_rfl) (by kernel_rfl) (by kernel_rfl) ?_ ?_
  · exact (sig_of (L := [(28, sp_rCheckOps), (29, sp_rBefore)]) ⟨sig_at rfl m_rCheckOps, sig_at rfl m_rBefore, trivial⟩)
  · rintro ds rs - h
    obtain ⟨l, -, rfl, rfl⟩ := spD_some h
    clear h
    refine ⟨⟨l.length + 1, ?_⟩, scalOk_1 rfl⟩
    show den _ _ t_rCheckCoins [.l 6 (l.map eCoin)] [] = ret (coinsCheck l)
    unfold t_rCheckCoins coinsCheck
    repeat' (first | refine den_let1 (by first | exact dx_eql rfl rfl | exact dx_neq rfl rfl | exact dx_lss rfl rfl | exact dx_gtr rfl rfl | exact dx_geq rfl rfl | exact dx_leq rfl rfl | exact dx_len rfl | exact den_add rfl rfl (by omega) | exact den_sub rfl rfl (by omega) | exact dx_idx rfl rfl (by omega) (by first | assumption | exact hx) rfl | exact dx_not rfl | exact dx_len0 rfl | exact dx_eqS rfl rfl | exact dx_neS rfl rfl | exact dx_eqB rfl rfl | exact dx_neB rfl rfl | exact dx_eqP rfl rfl rfl rfl | exact dx_neP rfl rfl rfl rfl | exact dx_neg rfl (by omega) | exact dx_cutl rfl rfl (by omega) (by omega) (by assumption) | exact den_mk (r := [[I _]]) rfl rfl (by simp) | exact dx_sel rfl rfl (by omega) rfl | exact dx_mn rfl rfl | exact dx_slen rfl | exact dx_app1 (fun _ => rfl) rfl rfl (by first | omega | (simp only [List.length_append, List.length_cons, List.length_nil]; omega))) ?_ | refine den_ck (by exact dx_inr rfl rfl (by omega) (by omega)) ?_ | refine den_lets (by first | exact dx_el rfl rfl (by omega) (by first | assumption | exact hx) (by rfl) | exact denXs_cons (dx_idx rfl rfl (by omega) (by first | assumption | exact hx) rfl) (denXs_cons (dx_idx rfl rfl (by omega) (by first | assumption | exact hx) rfl) denXs_nil)) ?_ (by simp only [eCoin, eTx, eIn, eOut, eOp, ePoint, eInt, eStr, eBlock, eTree, eBook, eUndo, eBool, List.cons_append, List.nil_append]; try exact rfl) | exact den_ret rfl rfl | refine den_ifR rfl (by with_reducible rfl) (fun h => ?_) (fun h => ?_) | refine den_ifB rfl (by with_reducible rfl) (fun h => ?_) (fun h => ?_) | refine den_ifC rfl (by with_reducible rfl) (fun h => ?_) (fun h => ?_) | refine den_ifBn rfl (by with_reducible rfl) (fun h => ?_) (fun h => ?_) | refine den_ifF rfl (by with_reducible rfl) (fun h => ?_) (fun h => ?_) | refine den_ifFn rfl (by with_reducible rfl) (fun h => ?_) (fun h => ?_) | refine den_ifAndOr rfl (by with_reducible rfl) (fun h => ?_) (fun h => ?_) | refine den_ifOrAnd rfl (by with_reducible rfl) (fun h => ?_) (fun h => ?_) | refine den_ifAnd rfl (by with_reducible rfl) (fun h => ?_) (fun h => ?_) | refine den_ifOr rfl (by with_reducible rfl) (fun h => ?_) (fun h => ?_) | refine den_band rfl (by with_reducible rfl) (fun h => ?_) (fun h => ?_) | refine den_bor rfl (by with_reducible rfl) (fun h => ?_) (fun h => ?_) | refine den_T rfl (by first | assumption | omega) ?_ | refine den_F rfl (by first | assumption | omega) ?_ | refine den_t rfl ?_ | refine den_f rfl ?_)
    rw [← coinsGoR_eq]
    (refine den_range (fun (st : Point × Int) k => [I st.2, I 0, I k]) (fun st k (r : List Coin) => coinsGoR st.1 st.2 r) (fun st k => ((k = 0 ∧ st.1 = ⟨0, 0⟩) ∨ (0 < k ∧ ∃ d, l[((k : Int) - 1).toNat]? = some d ∧ d.p = st.1)) ∧ 0 ≤ st.2 ∧ st.2 ≤ 1000000000) (⟨0, 0⟩, 0) l ?_ ?_ ?_ ?_ ?_; rfl; exact ⟨.inl ⟨rfl, rfl⟩, by decide, by decide⟩; first | exact Nat.lt_succ_self _ | omega)
    · rintro ⟨pv, s⟩ k c r hx hd hk ⟨hp, hs0, hs1⟩ again hag
      simp only at hp hs0 hs1 ⊢
      rw [coinsGoR]
      repeat' (first | refine den_let1 (by first | exact dx_eql rfl rfl | exact dx_neq rfl rfl | exact dx_lss rfl rfl | exact dx_gtr rfl rfl | exact dx_geq rfl rfl | exact dx_leq rfl rfl | exact dx_len rfl | exact den_add rfl rfl (by omega) | exact den_sub rfl rfl (by omega) | exact dx_idx rfl rfl (by omega) (by first | assumption | exact hx) rfl | exact den_call rfl (sp_rCheckOps_at _) rfl | exact dx_not rfl | exact dx_len0 rfl | exact dx_eqS rfl rfl | exact dx_neS rfl rfl | exact dx_eqB rfl rfl | exact dx_neB rfl rfl | exact dx_eqP rfl rfl rfl rfl | exact dx_neP rfl rfl rfl rfl | exact dx_neg rfl (by omega) | exact dx_cutl rfl rfl (by omega) (by omega) (by assumption) | exact den_mk (r := [[I _]]) rfl rfl (by simp) | exact dx_sel rfl rfl (by omega) rfl | exact dx_mn rfl rfl | exact dx_slen rfl | exact dx_app1 (fun _ => rfl) rfl rfl (by first | omega | (simp only [List.length_append, List.length_cons, List.length_nil]; omega))) ?_ | refine den_ck (by exact dx_inr rfl rfl (by omega) (by omega)) ?_ | refine den_lets (by first | exact dx_el rfl rfl (by omega) (by first | assumption | exact hx) (by rfl) | exact dx_calls rfl (sp_rCheckOps_at _) (by rfl) | exact denXs_cons (dx_idx rfl rfl (by omega) (by first | assumption | exact hx) rfl) (denXs_cons (dx_idx rfl rfl (by omega) (by first | assumption | exact hx) rfl) denXs_nil)) ?_ (by simp only [eCoin, eTx, eIn, eOut, eOp, ePoint, eInt, eStr, eBlock, eTree, eBook, eUndo, eBool, List.cons_append, List.nil_append]; try exact rfl) | exact den_ret rfl rfl | refine den_ifR rfl (by with_reducible rfl) (fun h => ?_) (fun h => ?_) | refine den_ifB rfl (by with_reducible rfl) (fun h => ?_) (fun h => ?_) | refine den_ifC rfl (by with_reducible rfl) (fun h => ?_) (fun h => ?_) | refine den_ifBn rfl (by with_reducible rfl) (fun h => ?_) (fun h => ?_) | refine den_ifF rfl (by with_reducible rfl) (fun h => ?_) (fun h => ?_) | refine den_ifFn rfl (by with_reducible rfl) (fun h => ?_) (fun h => ?_) | refine den_ifAndOr rfl (by with_reducible rfl) (fun h => ?_) (fun h => ?_) | refine den_ifOrAnd rfl (by with_reducible rfl) (fun h => ?_) (fun h => ?_) | refine den_ifAnd rfl (by with_reducible rfl) (fun h => ?_) (fun h => ?_) | refine den_ifOr rfl (by with_reducible rfl) (fun h => ?_) (fun h => ?_) | refine den_band rfl (by with_reducible rfl) (fun h => ?_) (fun h => ?_) | refine den_bor rfl (by with_reducible rfl) (fun h => ?_) (fun h => ?_) | refine den_T rfl (by first | assumption | omega) ?_ | refine den_F rfl (by first | assumption | omega) ?_ | refine den_t rfl ?_ | refine den_f rfl ?_)
      refine den_sp rfl (fun h => ?_) (fun h => ?_)
      · obtain ⟨hk0, -⟩ | ⟨hk0, d, hd', rfl⟩ := hp
        · omega
        repeat' (first | refine den_let1 (by first | exact dx_eql rfl rfl | exact dx_neq rfl rfl | exact dx_lss rfl rfl | exact dx_gtr rfl rfl | exact dx_geq rfl rfl | exact dx_leq rfl rfl | exact dx_len rfl | exact den_add rfl rfl (by omega) | exact den_sub rfl rfl (by omega) | exact dx_idx rfl rfl (by omega) (by first | assumption | exact hx) rfl | exact den_call rfl (sp_rBefore_at _ _) rfl | exact dx_not rfl | exact dx_len0 rfl | exact dx_eqS rfl rfl | exact dx_neS rfl rfl | exact dx_eqB rfl rfl | exact dx_neB rfl rfl | exact dx_eqP rfl rfl rfl rfl | exact dx_neP rfl rfl rfl rfl | exact dx_neg rfl (by omega) | exact dx_cutl rfl rfl (by omega) (by omega) (by assumption) | exact den_mk (r := [[I _]]) rfl rfl (by simp) | exact dx_sel rfl rfl (by omega) rfl | exact dx_mn rfl rfl | exact dx_slen rfl | exact dx_app1 (fun _ => rfl) rfl rfl (by first | omega | (simp only [List.length_append, List.length_cons, List.length_nil]; omega))) ?_ | refine den_ck (by exact dx_inr rfl rfl (by omega) (by omega)) ?_ | refine den_lets (by first | exact dx_el rfl rfl (by omega) (by first | assumption | exact hx) (by rfl) | exact dx_calls rfl (sp_rBefore_at _ _) (by rfl) | exact denXs_cons (dx_idx rfl rfl (by omega) (by first | assumption | exact hx) rfl) (denXs_cons (dx_idx rfl rfl (by omega) (by first | assumption | exact hx) rfl) denXs_nil)) ?_ (by simp only [eCoin, eTx, eIn, eOut, eOp, ePoint, eInt, eStr, eBlock, eTree, eBook, eUndo, eBool, List.cons_append, List.nil_append]; try exact rfl) | exact den_ret rfl rfl | refine den_ifR rfl (by with_reducible rfl) (fun h => ?_) (fun h => ?_) | refine den_ifB rfl (by with_reducible rfl) (fun h => ?_) (fun h => ?_) | refine den_ifC rfl (by with_reducible rfl) (fun h => ?_) (fun h => ?_) | refine den_ifBn rfl (by with_reducible rfl) (fun h => ?_) (fun h => ?_) | refine den_ifF rfl (by with_reducible rfl) (fun h => ?_) (fun h => ?_) | refine den_ifFn rfl (by with_reducible rfl) (fun h => ?_) (fun h => ?_) | refine den_ifAndOr rfl (by with_reducible rfl) (fun h => ?_) (fun h => ?_) | refine den_ifOrAnd rfl (by with_reducible rfl) (fun h => ?_) (fun h => ?_) | refine den_ifAnd rfl (by with_reducible rfl) (fun h => ?_) (fun h => ?_) | refine den_ifOr rfl (by with_reducible rfl) (fun h => ?_) (fun h => ?_) | refine den_band rfl (by with_reducible rfl) (fun h => ?_) (fun h => ?_) | refine den_bor rfl (by with_reducible rfl) (fun h => ?_) (fun h => ?_) | refine den_T rfl (by first | assumption | omega) ?_ | refine den_F rfl (by first | assumption | omega) ?_ | refine den_t rfl ?_ | refine den_f rfl ?_)
        exact den_again rfl rfl (hag (c.p, s + c.o.coin) ⟨.inr ⟨by omega, c, by simpa using hx, rfl⟩, by simp only; omega, by simp only; omega⟩)
      · obtain ⟨rfl, rfl⟩ | ⟨hk0, -⟩ := hp
        · have ho : ltP ⟨0, 0⟩ c.p := by
            unfold ltP
            simp only
            omega
          rw [if_pos (by simpa using ho)]
          repeat' (first | refine den_let1 (by first | exact dx_eql rfl rfl | exact dx_neq rfl rfl | exact dx_lss rfl rfl | exact dx_gtr rfl rfl | exact dx_geq rfl rfl | exact dx_leq rfl rfl | exact dx_len rfl | exact den_add rfl rfl (by omega) | exact den_sub rfl rfl (by omega) | exact dx_idx rfl rfl (by omega) (by first | assumption | exact hx) rfl | exact dx_not rfl | exact dx_len0 rfl | exact dx_eqS rfl rfl | exact dx_neS rfl rfl | exact dx_eqB rfl rfl | exact dx_neB rfl rfl | exact dx_eqP rfl rfl rfl rfl | exact dx_neP rfl rfl rfl rfl | exact dx_neg rfl (by omega) | exact dx_cutl rfl rfl (by omega) (by omega) (by assumption) | exact den_mk (r := [[I _]]) rfl rfl (by simp) | exact dx_sel rfl rfl (by omega) rfl | exact dx_mn rfl rfl | exact dx_slen rfl | exact dx_app1 (fun _ => rfl) rfl rfl (by first | omega | (simp only [List.length_append, List.length_cons, List.length_nil]; omega))) ?_ | refine den_ck (by exact dx_inr rfl rfl (by omega) (by omega)) ?_ | refine den_lets (by first | exact dx_el rfl rfl (by omega) (by first | assumption | exact hx) (by rfl) | exact denXs_cons (dx_idx rfl rfl (by omega) (by first | assumption | exact hx) rfl) (denXs_cons (dx_idx rfl rfl (by omega) (by first | assumption | exact hx) rfl) denXs_nil)) ?_ (by simp only [eCoin, eTx, eIn, eOut, eOp, ePoint, eInt, eStr, eBlock, eTree, eBook, eUndo, eBool, List.cons_append, List.nil_append]; try exact rfl) | exact den_ret rfl rfl | refine den_ifR rfl (by with_reducible rfl) (fun h => ?_) (fun h => ?_) | refine den_ifB rfl (by with_reducible rfl) (fun h => ?_) (fun h => ?_) | refine den_ifC rfl (by with_reducible rfl) (fun h => ?_) (fun h => ?_) | refine den_ifBn rfl (by with_reducible rfl) (fun h => ?_) (fun h => ?_) | refine den_ifF rfl (by with_reducible rfl) (fun h => ?_) (fun h => ?_) | refine den_ifFn rfl (by with_reducible rfl) (fun h => ?_) (fun h => ?_) | refine den_ifAndOr rfl (by with_reducible rfl) (fun h => ?_) (fun h => ?_) | refine den_ifOrAnd rfl (by with_reducible rfl) (fun h => ?_) (fun h => ?_) | refine den_ifAnd rfl (by with_reducible rfl) (fun h => ?_) (fun h => ?_) | refine den_ifOr rfl (by with_reducible rfl) (fun h => ?_) (fun h => ?_) | refine den_band rfl (by with_reducible rfl) (fun h => ?_) (fun h => ?_) | refine den_bor rfl (by with_reducible rfl) (fun h => ?_) (fun h => ?_) | refine den_T rfl (by first | assumption | omega) ?_ | refine den_F rfl (by first | assumption | omega) ?_ | refine den_t rfl ?_ | refine den_f rfl ?_)
          exact den_again rfl rfl (hag (c.p, s + c.o.coin) ⟨.inr ⟨by omega, c, by simpa using hx, rfl⟩, by simp only; omega, by simp only; omega⟩)
        · omega
    · intro st hI again
      simp only [coinsGoR]
      repeat' (first | refine den_let1 (by first | exact dx_eql rfl rfl | exact dx_neq rfl rfl | exact dx_lss rfl rfl | exact dx_gtr rfl rfl | exact dx_geq rfl rfl | exact dx_leq rfl rfl | exact dx_len rfl | exact den_add rfl rfl (by omega) | exact den_sub rfl rfl (by omega) | exact dx_idx rfl rfl (by omega) (by first | assumption | exact hx) rfl | exact dx_not rfl | exact dx_len0 rfl | exact dx_eqS rfl rfl | exact dx_neS rfl rfl | exact dx_eqB rfl rfl | exact dx_neB rfl rfl | exact dx_eqP rfl rfl rfl rfl | exact dx_neP rfl rfl rfl rfl | exact dx_neg rfl (by omega) | exact dx_cutl rfl rfl (by omega) (by omega) (by assumption) | exact den_mk (r := [[I _]]) rfl rfl (by simp) | exact dx_sel rfl rfl (by omega) rfl | exact dx_mn rfl rfl | exact dx_slen rfl | exact dx_app1 (fun _ => rfl) rfl rfl (by first | omega | (simp only [List.length_append, List.length_cons, List.length_nil]; omega))) ?_ | refine den_ck (by exact dx_inr rfl rfl (by omega) (by omega)) ?_ | refine den_lets (by first | exact dx_el rfl rfl (by omega) (by first | assumption | exact hx) (by rfl) | exact denXs_cons (dx_idx rfl rfl (by omega) (by first | assumption | exact hx) rfl) (denXs_cons (dx_idx rfl rfl (by omega) (by first | assumption | exact hx) rfl) denXs_nil)) ?_ (by simp only [eCoin, eTx, eIn, eOut, eOp, ePoint, eInt, eStr, eBlock, eTree, eBook, eUndo, eBool, List.cons_append, List.nil_append]; try exact rfl) | exact den_ret rfl rfl | refine den_ifR rfl (by with_reducible rfl) (fun h => ?_) (fun h => ?_) | refine den_ifB rfl (by with_reducible rfl) (fun h => ?_) (fun h => ?_) | refine den_ifC rfl (by with_reducible rfl) (fun h => ?_) (fun h => ?_) | refine den_ifBn rfl (by with_reducible rfl) (fun h => ?_) (fun h => ?_) | refine den_ifF rfl (by with_reducible rfl) (fun h => ?_) (fun h => ?_) | refine den_ifFn rfl (by with_reducible rfl) (fun h => ?_) (fun h => ?_) | refine den_ifAndOr rfl (by with_reducible rfl) (fun h => ?_) (fun h => ?_) | refine den_ifOrAnd rfl (by with_reducible rfl) (fun h => ?_) (fun h => ?_) | refine den_ifAnd rfl (by with_reducible rfl) (fun h => ?_) (fun h => ?_) | refine den_ifOr rfl (by with_reducible rfl) (fun h => ?_) (fun h => ?_) | refine den_band rfl (by with_reducible rfl) (fun h => ?_) (fun h => ?_) | refine den_bor rfl (by with_reducible rfl) (fun h => ?_) (fun h => ?_) | refine den_T rfl (by first | assumption | omega) ?_ | refine den_F rfl (by first | assumption | omega) ?_ | refine den_t rfl ?_ | refine den_f rfl ?_)
end Go.Proofs.Ytnnbnjanekibpaa
namespace Go.Proofs.Ytnnbnjanekibpaa
open Go.RowKit
set_option linter.unusedVariables false
set_option linter.unusedSimpArgs false
set_option maxRecDepth 100000
set_option maxHeartbeats 4000000
theorem meets_2 {P : Program} {α : Type} {e : α → List Dt} {m k : α → Int} {pk : List PK} {f : Nat} (hpk : isMine pk = false) (hen : En P f) (hm : ∀ x, I64 (m x) ∧ I64 (k x))
    (h : ∀ x W F us, (∀ b, F b → b < W.heap.size) → PKRs W F pk (e x) us → Calls P f us.toArray W fun r W' => r = .returned (.tuple #[.int .i64 (m x), .int .i64 (k x)]) ∧ Below W.heap.size W W') :
    Meets P (specOf e fun x => [I (m x), I (k x)]) f ⟨pk, [(false, [.scal]), (false, [.scal])], true⟩ :=
  meets_pure hpk hen (by simp [cfsOf]) (fun x j dd hj hd => by
    match j, hj, hd with
    | 0, _, hd => simp only [List.getElem?_cons_zero, Option.some.injEq] at hd; subst hd; rfl
    | 1, _, hd => simp only [List.getElem?_cons_zero, List.getElem?_cons_succ, Option.some.injEq] at hd; subst hd; rfl
    | j + 2, _, hd => simp at hd) (fun x => rfl) fun x W F us hF hargs => (h x W F us hF hargs).mono fun r W' ⟨h1, h2⟩ =>
      ⟨_, [.int .i64 (m x), .int .i64 (k x)], F, h1, h2, ⟨[_, _], rfl, _, _, [_], [_], rfl, rfl, ⟨rfl, rfl⟩, _, _, [_], [], rfl, rfl, ⟨rfl, rfl⟩, rfl, rfl⟩, ⟨.i _ _ (wrap_i64 (hm x).1), .i _ _ (wrap_i64 (hm x).2), trivial⟩, fun b hb => .inl hb⟩
theorem sumGo_bd : ∀ (l : List Int) (s : Int), 0 ≤ s → s ≤ 1000000000 → I64 (sumGo l s).1 ∧ I64 (sumGo l s).2
  | [], s, h0, h1 => ⟨⟨by show _ ≤ s; omega, by show s ≤ _; omega⟩, ⟨by show _ ≤ (0 : Int); decide, by show (0 : Int) ≤ _; decide⟩⟩
  | x :: l, s, h0, h1 => by
    unfold sumGo
    have hz : I64 0 := ⟨by decide, by decide⟩
    have h3 : I64 3 := ⟨by decide, by decide⟩
    have h12 : I64 12 := ⟨by decide, by decide⟩
    by_cases hb : 0 ≤ x ∧ x ≤ 1000000000
    · rw [if_pos hb]
      by_cases hf : 1000000000 < s + x
      · rw [if_pos hf]; exact ⟨hz, h12⟩
      · rw [if_neg hf]; exact sumGo_bd l (s + x) (by omega) (by omega)
    · rw [if_neg hb]; exact ⟨hz, h3⟩
noncomputable def sp_coinSum : Spec := spD (fun _ : List Int => True) fun l => coinSum l
theorem sp_coinSum_at (l : List Int) : sp_coinSum [.l 1 (l.map eInt)] = some [I (coinSum l).1, I (coinSum l).2] := spD_at (f := fun l : List Int => coinSum l) l trivial
theorem m_coinSum : Meets Try.prog sp_coinSum 23 ⟨[.one], [(false, [.scal]), (false, [.scal])], true⟩ :=
  meets_2 (e := fun x : { x : List Int // True } => Enc.e x.1) (m := fun x => (coinSum x.1).1) (k := fun x => (coinSum x.1).2) rfl (en_of (fn := Try.f23) (by kernel_rfl) (by kernel_rfl) (by kernel_rfl)) (fun x => sumGo_bd x.1 0 (by decide) (by decide)) fun x W F us hF h => by
    obtain ⟨v, us, rfl, h1, h⟩ := pks_one h
    obtain rfl := pks_nil h
    obtain ⟨A, n, c, rfl, k1⟩ := rep_rds she_int h1
    refine (sum_any x.1 A n c W F k1).mono ?_
    rintro r W' ⟨rfl, rfl⟩
    exact ⟨rfl, Below.refl _ _⟩
attribute [local irreducible] specOf spD ordP coinSum
def ofGo (k : List Op) : List Int → List Coin → List Int
  | a, [] => a
  | a, c :: r => if decide (c.o.lock = k) = true then ofGo k (a ++ [c.o.coin]) r else ofGo k a r
def ofOf (l : List Coin) (k : List Op) : Int × Int := if coinsCheck l ≠ 0 then (0, coinsCheck l) else coinSum (ofGo k [] l)
noncomputable def sp_unOf : Spec := spD (fun _ : List Coin × List Op => True) fun x => ofOf x.1 x.2
theorem sp_unOf_at (l : List Coin) (k : List Op) : sp_unOf [.l 6 (l.map eCoin), .l 2 (k.map eOp)] = some [I (ofOf l k).1, I (ofOf l k).2] := spD_at (f := fun x : List Coin × List Op => ofOf x.1 x.2) (l, k) trivial
def t_unOf_0 : T :=
  .ite (.v 14) (.lets [.mk 1 [[.v 10]]] [] (.lets [.app 1 (.v 5) (.v 15)] [] (.lets [.bin .add (.v 6) (.c (.i .i64 1))] [] (.again 0 [.v 16, .v 17])))) (.lets [.bin .add (.v 6) (.c
  (.i .i64 1))] [] (.again 0 [.v 5, .v 15]))
def t_unOf_1 : T :=
  .lets [.idx (.v 0) (.v 6) 0, .idx (.v 0) (.v 6) 1, .idx (.v 0) (.v 6) 2, .idx (.v 0) (.v 6) 3, .idx (.v 0) (.v 6) 4, .idx (.v 0) (.v 6) 5] [] (.lets [.call 22 [.v 11, .v 1] 0] []
  t_unOf_0)
def t_unOf_2 : T :=
  .lets [.bin .lss (.v 6) (.v 4)] [] (.ite (.v 7) (.lets [] [.inr 6 (.v 0) (.v 6)] t_unOf_1) (.lets [.call 21 [.v 5] 0, .call 21 [.v 5] 1] [] (.ret [.v 8, .v 9])))
def t_unOf : T :=
  .lets [.call 8 [.v 0] 0] [] (.lets [.bin .neq (.v 2) (.c (.i .i64 0))] [] (.ite (.v 3) (.ret [.c (.i .i64 0), .v 2]) (.lets [.len (.v 0)] [] (.loop [.c (.nil 1), .c (.i .i64 0)]
  t_unOf_2))))
theorem m_unOf : Meets Try.prog sp_unOf 62 ⟨[.one, .one], [(false, [.scal]), (false, [.scal])], true⟩ := by
  refine meets_fast (sp := (spsOf [(8, sp_unCheck), (21, sp_coinSum), (22, sp_eqOps)])) (sigs := sigsA) (cut := []) (hints := [⟨6, [.r 7 3 1, .t 17]⟩]) (fn := Try.f62) (t := t_unOf) (by kernel_rfl) (by kernel_rfl) (by kernel_rfl) ?_ ?_
  · exact (sig_of (L := [(8, sp_unCheck), (21, sp_coinSum), (22, sp_eqOps)]) ⟨sig_at rfl m_unCheck, sig_at rfl m_coinSum, sig_at rfl m_eqOps, trivial⟩)
  · rintro ds rs - h
    obtain ⟨⟨l, q⟩, -, rfl, rfl⟩ := spD_some h
    clear h
    refine ⟨⟨l.length + 1, ?_⟩, scalOk_2 rfl rfl⟩
    show den _ _ t_unOf [.l 6 (l.map eCoin), .l 2 (q.map eOp)] [] = ret (ofOf l q)
    unfold t_unOf ofOf
    repeat' (first | refine den_let1 (by first | exact dx_eql rfl rfl | exact dx_neq rfl rfl | exact dx_lss rfl rfl | exact dx_gtr rfl rfl | exact dx_geq rfl rfl | exact dx_leq rfl rfl | exact dx_len rfl | exact den_add rfl rfl (by omega) | exact den_sub rfl rfl (by omega) | exact dx_idx rfl rfl (by omega) (by first | assumption | exact hx) rfl | exact den_call rfl (sp_unCheck_at _) rfl | exact dx_not rfl | exact dx_len0 rfl | exact dx_eqS rfl rfl | exact dx_neS rfl rfl | exact dx_eqB rfl rfl | exact dx_neB rfl rfl | exact dx_eqP rfl rfl rfl rfl | exact dx_neP rfl rfl rfl rfl | exact dx_neg rfl (by omega) | exact dx_cutl rfl rfl (by omega) (by omega) (by assumption) | exact den_mk (r := [[I _]]) rfl rfl (by simp) | exact dx_sel rfl rfl (by omega) rfl | exact dx_mn rfl rfl | exact dx_slen rfl | exact dx_app1 (fun _ => rfl) rfl rfl (by first | omega | (simp only [List.length_append, List.length_cons, List.length_nil]; omega))) ?_ | refine den_ck (by exact dx_inr rfl rfl (by omega) (by omega)) ?_ | refine den_lets (by first | exact dx_el rfl rfl (by omega) (by first | assumption | exact hx) (by rfl) | exact dx_calls rfl (sp_unCheck_at _) (by rfl) | exact denXs_cons (dx_idx rfl rfl (by omega) (by first | assumption | exact hx) rfl) (denXs_cons (dx_idx rfl rfl (by omega) (by first | assumption | exact hx) rfl) denXs_nil)) ?_ (by simp only [eCoin, eTx, eIn, eOut, eOp, ePoint, eInt, eStr, eBlock, eTree, eBook, eUndo, eBool, List.cons_append, List.nil_append]; try exact rfl) | exact den_ret rfl rfl | refine den_ifR rfl (by with_reducible rfl) (fun h => ?_) (fun h => ?_) | refine den_ifB rfl (by with_reducible rfl) (fun h => ?_) (fun h => ?_) | refine den_ifC rfl (by with_reducible rfl) (fun h => ?_) (fun h => ?_) | refine den_ifBn rfl (by with_reducible rfl) (fun h => ?_) (fun h => ?_) | refine den_ifF rfl (by with_reducible rfl) (fun h => ?_) (fun h => ?_) | refine den_ifFn rfl (by with_reducible rfl) (fun h => ?_) (fun h => ?_) | refine den_ifAndOr rfl (by with_reducible rfl) (fun h => ?_) (fun h => ?_) | refine den_ifOrAnd rfl (by with_reducible rfl) (fun h => ?_) (fun h => ?_) | refine den_ifAnd rfl (by with_reducible rfl) (fun h => ?_) (fun h => ?_) | refine den_ifOr rfl (by with_reducible rfl) (fun h => ?_) (fun h => ?_) | refine den_band rfl (by with_reducible rfl) (fun h => ?_) (fun h => ?_) | refine den_bor rfl (by with_reducible rfl) (fun h => ?_) (fun h => ?_) | refine den_T rfl (by first | assumption | omega) ?_ | refine den_F rfl (by first | assumption | omega) ?_ | refine den_t rfl ?_ | refine den_f rfl ?_)
    have ok := (coinsCheck_iff l).1 (Decidable.not_not.1 h)
    have hl := ok.len
    (refine den_range (fun (a : List Int) k => [.l 1 (a.map eInt), I k]) (fun (a : List Int) _ (r : List Coin) => coinSum (ofGo q a r)) (fun a k => a.length ≤ k) ([] : List Int) l ?_ ?_ ?_ ?_ ?_; rfl; exact Nat.le_refl _; first | exact Nat.lt_succ_self _ | omega)
    · rintro a k c r hx hd hk ha again hag
      rw [ofGo]
      have e : coinSum (if decide (c.o.lock = q) = true then ofGo q (a ++ [c.o.coin]) r else ofGo q a r) = if decide (c.o.lock = q) = true then coinSum (ofGo q (a ++ [c.o.coin]) r) else coinSum (ofGo q a r) := by split <;> rfl
      rw [e]
      repeat' (first | refine den_let1 (by first | exact dx_eql rfl rfl | exact dx_neq rfl rfl | exact dx_lss rfl rfl | exact dx_gtr rfl rfl | exact dx_geq rfl rfl | exact dx_leq rfl rfl | exact dx_len rfl | exact den_add rfl rfl (by omega) | exact den_sub rfl rfl (by omega) | exact dx_idx rfl rfl (by omega) (by first | assumption | exact hx) rfl | exact den_call rfl (sp_eqOps_at _ _) rfl | exact dx_not rfl | exact dx_len0 rfl | exact dx_eqS rfl rfl | exact dx_neS rfl rfl | exact dx_eqB rfl rfl | exact dx_neB rfl rfl | exact dx_eqP rfl rfl rfl rfl | exact dx_neP rfl rfl rfl rfl | exact dx_neg rfl (by omega) | exact dx_cutl rfl rfl (by omega) (by omega) (by assumption) | exact den_mk (r := [[I _]]) rfl rfl (by simp) | exact dx_sel rfl rfl (by omega) rfl | exact dx_mn rfl rfl | exact dx_slen rfl | exact dx_app1 (fun _ => rfl) rfl rfl (by first | omega | (simp only [List.length_append, List.length_cons, List.length_nil]; omega))) ?_ | refine den_ck (by exact dx_inr rfl rfl (by omega) (by omega)) ?_ | refine den_lets (by first | exact dx_el rfl rfl (by omega) (by first | assumption | exact hx) (by rfl) | exact dx_calls rfl (sp_eqOps_at _ _) (by rfl) | exact denXs_cons (dx_idx rfl rfl (by omega) (by first | assumption | exact hx) rfl) (denXs_cons (dx_idx rfl rfl (by omega) (by first | assumption | exact hx) rfl) denXs_nil)) ?_ (by simp only [eCoin, eTx, eIn, eOut, eOp, ePoint, eInt, eStr, eBlock, eTree, eBook, eUndo, eBool, List.cons_append, List.nil_append]; try exact rfl) | exact den_ret rfl rfl | refine den_ifR rfl (by with_reducible rfl) (fun h => ?_) (fun h => ?_) | refine den_ifB rfl (by with_reducible rfl) (fun h => ?_) (fun h => ?_) | refine den_ifC rfl (by with_reducible rfl) (fun h => ?_) (fun h => ?_) | refine den_ifBn rfl (by with_reducible rfl) (fun h => ?_) (fun h => ?_) | refine den_ifF rfl (by with_reducible rfl) (fun h => ?_) (fun h => ?_) | refine den_ifFn rfl (by with_reducible rfl) (fun h => ?_) (fun h => ?_) | refine den_ifAndOr rfl (by with_reducible rfl) (fun h => ?_) (fun h => ?_) | refine den_ifOrAnd rfl (by with_reducible rfl) (fun h => ?_) (fun h => ?_) | refine den_ifAnd rfl (by with_reducible rfl) (fun h => ?_) (fun h => ?_) | refine den_ifOr rfl (by with_reducible rfl) (fun h => ?_) (fun h => ?_) | refine den_band rfl (by with_reducible rfl) (fun h => ?_) (fun h => ?_) | refine den_bor rfl (by with_reducible rfl) (fun h => ?_) (fun h => ?_) | refine den_T rfl (by first | assumption | omega) ?_ | refine den_F rfl (by first | assumption | omega) ?_ | refine den_t rfl ?_ | refine den_f rfl ?_)
      · exact den_again rfl rfl (hag (a ++ [c.o.coin]) (by simp; omega))
      · exact den_again rfl rfl (hag a (by omega))
    · rintro a - again
      rw [ofGo]
      repeat' (first | refine den_let1 (by first | exact dx_eql rfl rfl | exact dx_neq rfl rfl | exact dx_lss rfl rfl | exact dx_gtr rfl rfl | exact dx_geq rfl rfl | exact dx_leq rfl rfl | exact dx_len rfl | exact den_add rfl rfl (by omega) | exact den_sub rfl rfl (by omega) | exact dx_idx rfl rfl (by omega) (by first | assumption | exact hx) rfl | exact den_call rfl (sp_coinSum_at _) rfl | exact dx_not rfl | exact dx_len0 rfl | exact dx_eqS rfl rfl | exact dx_neS rfl rfl | exact dx_eqB rfl rfl | exact dx_neB rfl rfl | exact dx_eqP rfl rfl rfl rfl | exact dx_neP rfl rfl rfl rfl | exact dx_neg rfl (by omega) | exact dx_cutl rfl rfl (by omega) (by omega) (by assumption) | exact den_mk (r := [[I _]]) rfl rfl (by simp) | exact dx_sel rfl rfl (by omega) rfl | exact dx_mn rfl rfl | exact dx_slen rfl | exact dx_app1 (fun _ => rfl) rfl rfl (by first | omega | (simp only [List.length_append, List.length_cons, List.length_nil]; omega))) ?_ | refine den_ck (by exact dx_inr rfl rfl (by omega) (by omega)) ?_ | refine den_lets (by first | exact dx_el rfl rfl (by omega) (by first | assumption | exact hx) (by rfl) | exact dx_calls rfl (sp_coinSum_at _) (by rfl) | exact denXs_cons (dx_idx rfl rfl (by omega) (by first | assumption | exact hx) rfl) (denXs_cons (dx_idx rfl rfl (by omega) (by first | assumption | exact hx) rfl) denXs_nil)) ?_ (by simp only [eCoin, eTx, eIn, eOut, eOp, ePoint, eInt, eStr, eBlock, eTree, eBook, eUndo, eBool, List.cons_append, List.nil_append]; try exact rfl) | exact den_ret rfl rfl | refine den_ifR rfl (by with_reducible rfl) (fun h => ?_) (fun h => ?_) | refine den_ifB rfl (by with_reducible rfl) (fun h => ?_) (fun h => ?_) | refine den_ifC rfl (by with_reducible rfl) (fun h => ?_) (fun h => ?_) | refine den_ifBn rfl (by with_reducible rfl) (fun h => ?_) (fun h => ?_) | refine den_ifF rfl (by with_reducible rfl) (fun h => ?_) (fun h => ?_) | refine den_ifFn rfl (by with_reducible rfl) (fun h => ?_) (fun h => ?_) | refine den_ifAndOr rfl (by with_reducible rfl) (fun h => ?_) (fun h => ?_) | refine den_ifOrAnd rfl (by with_reducible rfl) (fun h => ?_) (fun h => ?_) | refine den_ifAnd rfl (by with_reducible rfl) (fun h => ?_) (fun h => ?_) | refine den_ifOr rfl (by with_reducible rfl) (fun h => ?_) (fun h => ?_) | refine den_band rfl (by with_reducible rfl) (fun h => ?_) (fun h => ?_) | refine den_bor rfl (by with_reducible rfl) (fun h => ?_) (fun h => ?_) | refine den_T rfl (by first | assumption | omega) ?_ | refine den_F rfl (by first | assumption | omega) ?_ | refine den_t rfl ?_ | refine den_f rfl ?_)
end Go.Proofs.Ytnnbnjanekibpaa
