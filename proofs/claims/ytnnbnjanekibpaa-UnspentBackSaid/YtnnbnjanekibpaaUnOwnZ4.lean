/- Own texts, put together by wip/bundle.py: VW4. -/
import Derived.Test.YtnnbnjanekibpaaUnOwnB
import Derived.Test.YtnnbnjanekibpaaUnOwnR
import Derived.Test.YtnnbnjanekibpaaUnOwnV2
import Derived.Test.YtnnbnjanekibpaaUnOwnZ3
namespace Go.Proofs.Ytnnbnjanekibpaa
open Go.RowKit
set_option linter.unusedVariables false
set_option linter.unusedSimpArgs false
set_option maxRecDepth 100000
set_option maxHeartbeats 4000000
def itsOf (q : List Op) (l : List Coin) : Int := coinTotal (l.filter fun c => decide (c.o.lock = q))
theorem itsOf_le {q : List Op} : ∀ {l : List Coin}, (∀ c ∈ l, coinBad c = 0) → 0 ≤ itsOf q l ∧ itsOf q l ≤ coinTotal l
  | [], _ => by simp [itsOf, coinTotal]
  | c :: l, h => by
    have h1 := itsOf_le (q := q) (l := l) fun x hx => h x (List.mem_cons_of_mem _ hx)
    have h2 := coinBad_ok (h c (List.mem_cons_self ..))
    unfold itsOf at h1 ⊢
    rw [List.filter_cons]
    split
    · simp only [coinTotal]; omega
    · simp only [coinTotal]; omega
theorem itsOf_add (q : List Op) (l : List Coin) (c : Coin) : itsOf q (l ++ [c]) = if c.o.lock = q then itsOf q l + c.o.coin else itsOf q l := by
  unfold itsOf
  rw [List.filter_append, coinTotal_append]
  by_cases h : c.o.lock = q
  · rw [if_pos h]; simp [h, coinTotal]
  · rw [if_neg h]; simp [h, coinTotal]
theorem total_add (l : List Coin) (c : Coin) : coinTotal (l ++ [c]) = coinTotal l + c.o.coin := by rw [coinTotal_append]; simp [coinTotal]
theorem total_take {l : List Coin} (h : ∀ c ∈ l, coinBad c = 0) (k : Nat) : 0 ≤ coinTotal (l.take k) ∧ coinTotal (l.take k) ≤ coinTotal l := by
  have h1 := coinTotal_nn (l := l.take k) fun c hc => h c (List.mem_of_mem_take hc)
  have h2 := coinTotal_nn (l := l.drop k) fun c hc => h c (List.mem_of_mem_drop hc)
  have e : coinTotal l = coinTotal (l.take k) + coinTotal (l.drop k) := by rw [← coinTotal_append, List.take_append_drop]
  omega
theorem ofGo_eq (q : List Op) : ∀ (l : List Coin) (a : List Int), ofGo q a l = a ++ (l.filter fun c => decide (c.o.lock = q)).map fun c => c.o.coin
  | [], a => by simp [ofGo]
  | c :: l, a => by
    rw [ofGo]
    by_cases h : c.o.lock = q
    · rw [if_pos (by simpa using h), ofGo_eq q l]; simp [h]
    · rw [if_neg (by simpa using h), ofGo_eq q l]; simp [h]
theorem sumGo_all : ∀ (l : List Coin) (s : Int), (∀ c ∈ l, 0 ≤ c.o.coin ∧ c.o.coin ≤ 1000000000) → 0 ≤ s → s + coinTotal l ≤ 1000000000 → sumGo (l.map fun c => c.o.coin) s = (s + coinTotal l, 0)
  | [], s, _, _, _ => by simp [sumGo, coinTotal]
  | c :: l, s, h, h0, h1 => by
    have hc := h c (List.mem_cons_self ..)
    have hn : 0 ≤ coinTotal l := by
      have key : ∀ l : List Coin, (∀ c ∈ l, 0 ≤ c.o.coin ∧ c.o.coin ≤ 1000000000) → 0 ≤ coinTotal l := by
        intro l
        induction l with
        | nil => intro _; simp [coinTotal]
        | cons d l ih =>
          intro h
          have := h d (List.mem_cons_self ..)
          have := ih fun x hx => h x (List.mem_cons_of_mem _ hx)
          simp only [coinTotal]; omega
      exact key l fun x hx => h x (List.mem_cons_of_mem _ hx)
    simp only [coinTotal] at h1 ⊢
    rw [List.map_cons, sumGo, if_pos hc, if_neg (by omega), sumGo_all l _ (fun x hx => h x (List.mem_cons_of_mem _ hx)) (by omega) (by omega)]
    congr 1
    omega
theorem ofOf_ok {l : List Coin} (ok : CoinsOK l) (q : List Op) : ofOf l q = (itsOf q l, 0) := by
  unfold ofOf
  rw [if_neg (by rw [(coinsCheck_iff l).2 ok]; decide), ofGo_eq, List.nil_append]
  unfold coinSum
  have h1 := itsOf_le (q := q) ok.good
  have h2 := ok.total
  rw [sumGo_all _ _ (fun c hc => by have := coinBad_ok (ok.good c (List.mem_filter.1 hc).1); omega) (by omega) (by unfold itsOf at h1; omega)]
  unfold itsOf
  congr 1
  omega
theorem bad_all {l : List Coin} (h : coinsCheck l ≠ 0) (p : Point) (q : List Op) : findOf l p = (coin0, coinsCheck l) ∧ totalOf l = (0, coinsCheck l) ∧ ofOf l q = (0, coinsCheck l) := by
  unfold findOf totalOf ofOf
  rw [if_pos h, if_pos h, if_pos h]
  exact ⟨rfl, rfl, rfl⟩
def FoundIn (l : List Coin) (p : Point) (e : Int) (c : Coin) : Prop := (c ∈ l ∧ c.p = p ∧ e = 0) ∨ ((∀ d ∈ l, d.p ≠ p) ∧ e = 7 ∧ c = coin0)
theorem found_find {l : List Coin} {p : Point} {e : Int} {c : Coin} (ok : CoinsOK l) (h : FoundIn l p e c) : findOf l p = (c, e) := by
  rcases h with ⟨h1, rfl, rfl⟩ | ⟨h1, rfl, rfl⟩
  · exact find_there ok h1
  · exact find_gone ok (hasP_not.2 h1)
theorem found_add {l : List Coin} {p : Point} {e : Int} {c d : Coin} (h : FoundIn l p e c) (hs : SortedC (l ++ [d])) : (d.p = p → FoundIn (l ++ [d]) p 0 d) ∧ (¬ d.p = p → FoundIn (l ++ [d]) p e c) := by
  refine ⟨fun hd => .inl ⟨by simp, hd, rfl⟩, fun hd => ?_⟩
  rcases h with ⟨h1, h2, h3⟩ | ⟨h1, h2, h3⟩
  · exact .inl ⟨by simp [h1], h2, h3⟩
  · refine .inr ⟨fun x hx => ?_, h2, h3⟩
    rcases List.mem_append.1 hx with hx | hx
    · exact h1 x hx
    · simp only [List.mem_singleton] at hx; subst hx; exact hd
structure FindsI (l : List Coin) (p : Point) (q : List Op) (st : Int × Int × Int × Coin) (k : Nat) : Prop where
  all : st.1 = coinTotal (l.take k)
  its : st.2.1 = itsOf q (l.take k)
  found : FoundIn (l.take k) p st.2.2.1 st.2.2.2
theorem FindsI.next {l : List Coin} {p : Point} {q : List Op} {a i e : Int} {f : Coin} {k : Nat} {c : Coin} (h : FindsI l p q (a, i, e, f) k) (hc : l[k]? = some c) (hs : SortedC l) :
    (c.o.lock = q → c.p = p → FindsI l p q (a + c.o.coin, i + c.o.coin, 0, c) (k + 1)) ∧ (c.o.lock = q → ¬ c.p = p → FindsI l p q (a + c.o.coin, i + c.o.coin, e, f) (k + 1)) ∧
    (¬ c.o.lock = q → c.p = p → FindsI l p q (a + c.o.coin, i, 0, c) (k + 1)) ∧ (¬ c.o.lock = q → ¬ c.p = p → FindsI l p q (a + c.o.coin, i, e, f) (k + 1)) := by
  obtain ⟨h1, h2, h3⟩ := h
  simp only at h1 h2 h3
  have ht : l.take (k + 1) = l.take k ++ [c] := by rw [List.take_add_one, hc]; rfl
  have hs' : SortedC (l.take k ++ [c]) := by rw [← ht]; exact List.Pairwise.sublist (List.take_sublist _ _) hs
  obtain ⟨f1, f2⟩ := found_add h3 hs'
  refine ⟨fun g1 g2 => ⟨?_, ?_, ?_⟩, fun g1 g2 => ⟨?_, ?_, ?_⟩, fun g1 g2 => ⟨?_, ?_, ?_⟩, fun g1 g2 => ⟨?_, ?_, ?_⟩⟩ <;> rw [ht]
  · rw [total_add, h1]
  · rw [itsOf_add, if_pos g1, h2]
  · exact f1 g2
  · rw [total_add, h1]
  · rw [itsOf_add, if_pos g1, h2]
  · exact f2 g2
  · rw [total_add, h1]
  · rw [itsOf_add, if_neg g1, h2]
  · exact f1 g2
  · rw [total_add, h1]
  · rw [itsOf_add, if_neg g1, h2]
  · exact f2 g2
attribute [local irreducible] specOf spD ordP coinsCheck txCheck applyOf revertOf findOf totalOf ofOf
noncomputable def sp_lUnFinds : Spec := spD (fun _ : List Coin × Point × List Op × List Coin => True) fun _ => true
def t_lUnFinds_0 : T :=
  .lets [.mk 6 [[.c (.i .i64 0), .c (.i .i64 0), .c (.i .i64 0), .c (.nil 2), .c (.i .i64 0), .c (.b false)]]] [] (.lets [.call 31 [.v 28, .v 29] 0] [] (.ret [.v 30]))
def t_lUnFinds_1 : T :=
  .ite (.v 26) (.lets [.bin .eql (.v 14) (.c (.i .i64 0))] [] (.ite (.v 27) (.lets [.mk 6 [[.v 5, .v 6, .v 7, .v 8, .v 9, .v 10]]] [] t_lUnFinds_0) (.ret [.c (.b false)]))) (.ret [.c
  (.b false)])
def t_lUnFinds_2 : T :=
  .ite (.v 24) (.lets [.bin .eql (.v 15) (.v 16)] [] (.ite (.v 25) (.lets [.bin .eql (.v 12) (.c (.i .i64 0))] [] t_lUnFinds_1) (.ret [.c (.b false)]))) (.ret [.c (.b false)])
def t_lUnFinds_3 : T :=
  .ite (.v 44) (.lets [.bin .add (.v 27) (.c (.i .i64 1))] [] (.again 0 [.v 41, .v 43, .c (.i .i64 0), .v 45, .v 35, .v 36, .v 37, .v 38, .v 39, .v 40])) (.lets [.bin .add (.v 27) (.c
  (.i .i64 1))] [] (.again 0 [.v 41, .v 43, .v 26, .v 45, .v 28, .v 29, .v 30, .v 31, .v 32, .v 33]))
def t_lUnFinds_4 : T :=
  .ite (.v 43) (.lets [.bin .add (.v 27) (.c (.i .i64 1))] [] (.again 0 [.v 41, .v 25, .c (.i .i64 0), .v 44, .v 35, .v 36, .v 37, .v 38, .v 39, .v 40])) (.lets [.bin .add (.v 27) (.c
  (.i .i64 1))] [] (.again 0 [.v 41, .v 25, .v 26, .v 44, .v 28, .v 29, .v 30, .v 31, .v 32, .v 33]))
def t_lUnFinds_5 : T :=
  .ite (.v 42) (.lets [.bin .add (.v 25) (.v 37)] [] (.lets [.eqs false [(.v 35, .v 1), (.v 36, .v 2)]] [] t_lUnFinds_3)) (.lets [.eqs false [(.v 35, .v 1), (.v 36, .v 2)]] []
  t_lUnFinds_4)
def t_lUnFinds_6 : T :=
  .lets [.idx (.v 0) (.v 27) 0, .idx (.v 0) (.v 27) 1, .idx (.v 0) (.v 27) 2, .idx (.v 0) (.v 27) 3, .idx (.v 0) (.v 27) 4, .idx (.v 0) (.v 27) 5] [] (.lets [.bin .add (.v 24) (.v
  37)] [] (.lets [.call 22 [.v 38, .v 3] 0] [] t_lUnFinds_5))
def t_lUnFinds_7 : T :=
  .lets [.mk 6 [[.v 5, .v 6, .v 7, .v 8, .v 9, .v 10]]] [] (.lets [.mk 6 [[.v 28, .v 29, .v 30, .v 31, .v 32, .v 33]]] [] (.lets [.call 31 [.v 40, .v 41] 0] [] (.ret [.v 42])))
def t_lUnFinds_8 : T :=
  .lets [.bin .eql (.v 14) (.v 25)] [] (.ite (.v 38) (.lets [.bin .eql (.v 11) (.v 26)] [] (.ite (.v 39) t_lUnFinds_7 (.ret [.c (.b false)]))) (.ret [.c (.b false)]))
def t_lUnFinds_9 : T :=
  .lets [.bin .eql (.v 15) (.c (.i .i64 0))] [] (.ite (.v 36) (.lets [.bin .eql (.v 12) (.v 24)] [] (.ite (.v 37) t_lUnFinds_8 (.ret [.c (.b false)]))) (.ret [.c (.b false)]))
def t_lUnFinds_10 : T :=
  .lets [.bin .lss (.v 27) (.v 23)] [] (.ite (.v 34) (.lets [] [.inr 6 (.v 0) (.v 27)] t_lUnFinds_6) (.lets [.bin .eql (.v 13) (.c (.i .i64 0))] [] (.ite (.v 35) t_lUnFinds_9 (.ret
  [.c (.b false)]))))
def t_lUnFinds_11 : T :=
  .loop [.c (.i .i64 0), .c (.i .i64 0), .c (.i .i64 7), .c (.i .i64 0), .c (.i .i64 0), .c (.i .i64 0), .c (.i .i64 0), .c (.nil 2), .c (.i .i64 0), .c (.b false)] t_lUnFinds_10
def t_lUnFinds_12 : T :=
  .ite (.v 22) (.lets [.bin .eql (.v 11) (.v 16)] [] (.ite (.v 23) (.lets [.bin .eql (.v 13) (.v 16)] [] t_lUnFinds_2) (.ret [.c (.b false)]))) (.lets [.len (.v 0)] [] t_lUnFinds_11)
def t_lUnFinds_13 : T :=
  .lets [.call 31 [.v 0, .v 4] 0] [] (.lets [.beq true (.v 19) (.v 20)] [] (.ite (.v 21) (.ret [.c (.b false)]) (.lets [.bin .neq (.v 16) (.c (.i .i64 0))] [] t_lUnFinds_12)))
def t_lUnFinds_14 : T :=
  .lets [.call 30 [.v 0] 0] [] (.lets [.call 20 [] 0] [] (.lets [.not (.v 17)] [] (.ite (.v 18) (.ret [.c (.b false)]) (.lets [.call 26 [.v 0, .v 4] 0] [] t_lUnFinds_13))))
def t_lUnFinds : T :=
  .lets [.call 19 [.v 0, .v 1, .v 2] 0, .call 19 [.v 0, .v 1, .v 2] 1, .call 19 [.v 0, .v 1, .v 2] 2, .call 19 [.v 0, .v 1, .v 2] 3, .call 19 [.v 0, .v 1, .v 2] 4, .call 19 [.v 0, .v
  1, .v 2] 5, .call 19 [.v 0, .v 1, .v 2] 6] [] (.lets [.call 12 [.v 0] 0, .call 12 [.v 0] 1] [] (.lets [.call 32 [.v 0, .v 3] 0, .call 32 [.v 0, .v 3] 1] [] t_lUnFinds_14))
theorem m_lUnFinds : Meets Try.prog sp_lUnFinds 15 ⟨[.one, .agg 2, .one, .one], [(false, [.scal])], true⟩ := by
  refine meets_fast (sp := (spsOf [(12, sp_unTotal), (19, sp_unFind), (20, sp_lThere), (22, sp_eqOps), (26, sp_unSame), (30, sp_rCheckCoins), (31, sp_rSameCoins), (32, sp_unOf)])) (sigs := sigsA) (cut := []) (hints := [⟨13, [.t 16, .t 17, .t 19, .t 85, .o 18]⟩]) (fn := Try.f15) (t := t_lUnFinds) (by kernel_rfl) (by kernel_rfl) (by kernel_rfl) ?_ ?_
  · exact (sig_of (L := [(12, sp_unTotal), (19, sp_unFind), (20, sp_lThere), (22, sp_eqOps), (26, sp_unSame), (30, sp_rCheckCoins), (31, sp_rSameCoins), (32, sp_unOf)]) ⟨sig_at rfl m_unTotal, sig_at rfl m_unFind, sig_at rfl m_lThere, sig_at rfl m_eqOps, sig_at rfl m_unSame, sig_at rfl m_rCheckCoins, sig_at rfl m_rSameCoins, sig_at rfl m_unOf, trivial⟩)
  · rintro ds rs - h
    obtain ⟨⟨l, p, q, m⟩, -, rfl, rfl⟩ := spD_some h
    clear h
    refine ⟨⟨l.length + 1, ?_⟩, scalOk_1 rfl⟩
    show den _ _ t_lUnFinds [.l 6 (l.map eCoin), I p.tx, I p.at_, .l 2 (q.map eOp), .l 6 (m.map eCoin)] [] = ret true
    unfold t_lUnFinds
    have b1 := sp_unFind_at l p
    have b2 := sp_unTotal_at l
    have b3 := sp_unOf_at l q
    by_cases hb : coinsCheck l = 0
    · have ok := (coinsCheck_iff l).1 hb
      have hl := ok.len
      rw [totalOf_ok ok] at b2
      rw [ofOf_ok ok] at b3
      repeat' (first | refine den_let1 (by first | exact dx_eql rfl rfl | exact dx_neq rfl rfl | exact dx_lss rfl rfl | exact dx_gtr rfl rfl | exact dx_geq rfl rfl | exact dx_leq rfl rfl | exact dx_len rfl | exact den_add rfl rfl (by omega) | exact den_sub rfl rfl (by omega) | exact dx_idx rfl rfl (by omega) (by first | assumption | exact hx) rfl | exact den_call rfl (b1) rfl | exact den_call rfl (b2) rfl | exact den_call rfl (b3) rfl | exact den_call rfl (sp_rCheckCoins_at l) rfl | exact den_call rfl (sp_lThere_at) rfl | exact den_call rfl (sp_unSame_at l m) rfl | exact den_call rfl (sp_rSameCoins_at l m) rfl | exact dx_not rfl | exact dx_len0 rfl | exact dx_eqS rfl rfl | exact dx_neS rfl rfl | exact dx_eqB rfl rfl | exact dx_neB rfl rfl | exact dx_eqP rfl rfl rfl rfl | exact dx_neP rfl rfl rfl rfl | exact dx_neg rfl (by omega) | exact dx_cutl rfl rfl (by omega) (by omega) (by assumption) | exact den_mk (r := [[I _]]) rfl rfl (by simp) | exact dx_sel rfl rfl (by omega) rfl | exact dx_mn rfl rfl | exact dx_slen rfl | exact dx_app1 (fun _ => rfl) rfl rfl (by first | omega | (simp only [List.length_append, List.length_cons, List.length_nil]; omega))) ?_ | refine den_ck (by exact dx_inr rfl rfl (by omega) (by omega)) ?_ | refine den_lets (by first | exact dx_el rfl rfl (by omega) (by first | assumption | exact hx) (by rfl) | exact dx_calls rfl (b1) (by rfl) | exact dx_calls rfl (b2) (by rfl) | exact dx_calls rfl (b3) (by rfl) | exact dx_calls rfl (sp_rCheckCoins_at l) (by rfl) | exact dx_calls rfl (sp_lThere_at) (by rfl) | exact dx_calls rfl (sp_unSame_at l m) (by rfl) | exact dx_calls rfl (sp_rSameCoins_at l m) (by rfl) | exact denXs_cons (dx_idx rfl rfl (by omega) (by first | assumption | exact hx) rfl) (denXs_cons (dx_idx rfl rfl (by omega) (by first | assumption | exact hx) rfl) denXs_nil)) ?_ (by simp only [eCoin, eTx, eIn, eOut, eOp, ePoint, eInt, eStr, eBlock, eTree, eBook, eUndo, eBool, List.cons_append, List.nil_append]; try exact rfl) | exact den_ret rfl rfl | refine den_ifR rfl (by with_reducible rfl) (fun h => ?_) (fun h => ?_) | refine den_ifB rfl (by with_reducible rfl) (fun h => ?_) (fun h => ?_) | refine den_ifC rfl (by with_reducible rfl) (fun h => ?_) (fun h => ?_) | refine den_ifBn rfl (by with_reducible rfl) (fun h => ?_) (fun h => ?_) | refine den_ifF rfl (by with_reducible rfl) (fun h => ?_) (fun h => ?_) | refine den_ifFn rfl (by with_reducible rfl) (fun h => ?_) (fun h => ?_) | refine den_ifAndOr rfl (by with_reducible rfl) (fun h => ?_) (fun h => ?_) | refine den_ifOrAnd rfl (by with_reducible rfl) (fun h => ?_) (fun h => ?_) | refine den_ifAnd rfl (by with_reducible rfl) (fun h => ?_) (fun h => ?_) | refine den_ifOr rfl (by with_reducible rfl) (fun h => ?_) (fun h => ?_) | refine den_band rfl (by with_reducible rfl) (fun h => ?_) (fun h => ?_) | refine den_bor rfl (by with_reducible rfl) (fun h => ?_) (fun h => ?_) | refine den_T rfl (by first | assumption | omega) ?_ | refine den_F rfl (by first | assumption | omega) ?_ | refine den_t rfl ?_ | refine den_f rfl ?_ | refine den_sp rfl (fun h => ?_) (fun h => ?_))
      · exact absurd rfl h
      have hq := itsOf_le (q := q) ok.good
      have htt := ok.total
      (refine den_range (fun (st : Int × Int × Int × Coin) k => [I st.1, I st.2.1, I st.2.2.1, I k] ++ eCoin st.2.2.2) (fun (_ : Int × Int × Int × Coin) _ (_ : List Coin) => true) (fun st k => FindsI l p q st k) (0, 0, 7, coin0) l ?_ ?_ ?_ ?_ ?_; rfl; exact ⟨by simp [coinTotal], by simp [itsOf, coinTotal], .inr ⟨fun d hd => by simp at hd, rfl, rfl⟩⟩; omega)
      · rintro ⟨a, i, e, f⟩ k c cs hx hd hk hI again hag
        obtain ⟨g1, g2, g3, g4⟩ := hI.next hx ok.sorted
        have hc := coinBad_ok (ok.good c (List.mem_of_getElem? hx))
        have ha := hI.all
        have hi := hI.its
        simp only at ha hi
        have ht := total_take ok.good k
        have hit := itsOf_le (q := q) (l := l.take k) fun c hc => ok.good c (List.mem_of_mem_take hc)
        simp only [eCoin, List.cons_append, List.nil_append]
        repeat' (first | refine den_let1 (by first | exact dx_eql rfl rfl | exact dx_neq rfl rfl | exact dx_lss rfl rfl | exact dx_gtr rfl rfl | exact dx_geq rfl rfl | exact dx_leq rfl rfl | exact dx_len rfl | exact den_add rfl rfl (by omega) | exact den_sub rfl rfl (by omega) | exact dx_idx rfl rfl (by omega) (by first | assumption | exact hx) rfl | exact den_call rfl (sp_eqOps_at c.o.lock q) rfl | exact dx_not rfl | exact dx_len0 rfl | exact dx_eqS rfl rfl | exact dx_neS rfl rfl | exact dx_eqB rfl rfl | exact dx_neB rfl rfl | exact dx_eqP rfl rfl rfl rfl | exact dx_neP rfl rfl rfl rfl | exact dx_neg rfl (by omega) | exact dx_cutl rfl rfl (by omega) (by omega) (by assumption) | exact den_mk (r := [[I _]]) rfl rfl (by simp) | exact dx_sel rfl rfl (by omega) rfl | exact dx_mn rfl rfl | exact dx_slen rfl | exact dx_app1 (fun _ => rfl) rfl rfl (by first | omega | (simp only [List.length_append, List.length_cons, List.length_nil]; omega))) ?_ | refine den_ck (by exact dx_inr rfl rfl (by omega) (by omega)) ?_ | refine den_lets (by first | exact dx_el rfl rfl (by omega) (by first | assumption | exact hx) (by rfl) | exact dx_calls rfl (sp_eqOps_at c.o.lock q) (by rfl) | exact denXs_cons (dx_idx rfl rfl (by omega) (by first | assumption | exact hx) rfl) (denXs_cons (dx_idx rfl rfl (by omega) (by first | assumption | exact hx) rfl) denXs_nil)) ?_ (by simp only [eCoin, eTx, eIn, eOut, eOp, ePoint, eInt, eStr, eBlock, eTree, eBook, eUndo, eBool, List.cons_append, List.nil_append]; try exact rfl) | exact den_ret rfl rfl | refine den_ifR rfl (by with_reducible rfl) (fun h => ?_) (fun h => ?_) | refine den_ifB rfl (by with_reducible rfl) (fun h => ?_) (fun h => ?_) | refine den_ifC rfl (by with_reducible rfl) (fun h => ?_) (fun h => ?_) | refine den_ifBn rfl (by with_reducible rfl) (fun h => ?_) (fun h => ?_) | refine den_ifF rfl (by with_reducible rfl) (fun h => ?_) (fun h => ?_) | refine den_ifFn rfl (by with_reducible rfl) (fun h => ?_) (fun h => ?_) | refine den_ifAndOr rfl (by with_reducible rfl) (fun h => ?_) (fun h => ?_) | refine den_ifOrAnd rfl (by with_reducible rfl) (fun h => ?_) (fun h => ?_) | refine den_ifAnd rfl (by with_reducible rfl) (fun h => ?_) (fun h => ?_) | refine den_ifOr rfl (by with_reducible rfl) (fun h => ?_) (fun h => ?_) | refine den_band rfl (by with_reducible rfl) (fun h => ?_) (fun h => ?_) | refine den_bor rfl (by with_reducible rfl) (fun h => ?_) (fun h => ?_) | refine den_T rfl (by first | assumption | omega) ?_ | refine den_F rfl (by first | assumption | omega) ?_ | refine den_t rfl ?_ | refine den_f rfl ?_ | refine den_sp rfl (fun h => ?_) (fun h => ?_))
        all_goals first
          | exact den_again rfl rfl (hag _ (g1 (by assumption) (by assumption)))
          | exact den_again rfl rfl (hag _ (g2 (by assumption) (by assumption)))
          | exact den_again rfl rfl (hag _ (g3 (by assumption) (by assumption)))
          | exact den_again rfl rfl (hag _ (g4 (by assumption) (by assumption)))
      · rintro ⟨a, i, e, f⟩ hI again
        have ha := hI.all
        have hi := hI.its
        have hf := hI.found
        rw [List.take_length] at ha hi hf
        simp only at ha hi hf
        have hfo := found_find ok hf
        clear b1 b2 b3
        simp only [hfo, eCoin, List.cons_append, List.nil_append]
        repeat' (first | refine den_let1 (by first | exact dx_eql rfl rfl | exact dx_neq rfl rfl | exact dx_lss rfl rfl | exact dx_gtr rfl rfl | exact dx_geq rfl rfl | exact dx_leq rfl rfl | exact dx_len rfl | exact den_add rfl rfl (by omega) | exact den_sub rfl rfl (by omega) | exact dx_idx rfl rfl (by omega) (by first | assumption | exact hx) rfl | exact dx_not rfl | exact dx_len0 rfl | exact dx_eqS rfl rfl | exact dx_neS rfl rfl | exact dx_eqB rfl rfl | exact dx_neB rfl rfl | exact dx_eqP rfl rfl rfl rfl | exact dx_neP rfl rfl rfl rfl | exact dx_neg rfl (by omega) | exact dx_cutl rfl rfl (by omega) (by omega) (by assumption) | exact den_mk (r := [[I _]]) rfl rfl (by simp) | exact dx_sel rfl rfl (by omega) rfl | exact dx_mn rfl rfl | exact dx_slen rfl | exact dx_app1 (fun _ => rfl) rfl rfl (by first | omega | (simp only [List.length_append, List.length_cons, List.length_nil]; omega))) ?_ | refine den_ck (by exact dx_inr rfl rfl (by omega) (by omega)) ?_ | refine den_lets (by first | exact dx_el rfl rfl (by omega) (by first | assumption | exact hx) (by rfl) | exact denXs_cons (dx_idx rfl rfl (by omega) (by first | assumption | exact hx) rfl) (denXs_cons (dx_idx rfl rfl (by omega) (by first | assumption | exact hx) rfl) denXs_nil)) ?_ (by simp only [eCoin, eTx, eIn, eOut, eOp, ePoint, eInt, eStr, eBlock, eTree, eBook, eUndo, eBool, List.cons_append, List.nil_append]; try exact rfl) | exact den_ret rfl rfl | refine den_ifR rfl (by with_reducible rfl) (fun h => ?_) (fun h => ?_) | refine den_ifB rfl (by with_reducible rfl) (fun h => ?_) (fun h => ?_) | refine den_ifC rfl (by with_reducible rfl) (fun h => ?_) (fun h => ?_) | refine den_ifBn rfl (by with_reducible rfl) (fun h => ?_) (fun h => ?_) | refine den_ifF rfl (by with_reducible rfl) (fun h => ?_) (fun h => ?_) | refine den_ifFn rfl (by with_reducible rfl) (fun h => ?_) (fun h => ?_) | refine den_ifAndOr rfl (by with_reducible rfl) (fun h => ?_) (fun h => ?_) | refine den_ifOrAnd rfl (by with_reducible rfl) (fun h => ?_) (fun h => ?_) | refine den_ifAnd rfl (by with_reducible rfl) (fun h => ?_) (fun h => ?_) | refine den_ifOr rfl (by with_reducible rfl) (fun h => ?_) (fun h => ?_) | refine den_band rfl (by with_reducible rfl) (fun h => ?_) (fun h => ?_) | refine den_bor rfl (by with_reducible rfl) (fun h => ?_) (fun h => ?_) | refine den_T rfl (by first | assumption | omega) ?_ | refine den_F rfl (by first | assumption | omega) ?_ | refine den_t rfl ?_ | refine den_f rfl ?_ | refine den_sp rfl (fun h => ?_) (fun h => ?_))
        refine den_let1 (den_mk (r := [f].map eCoin) rfl rfl (by simp)) ?_
        refine den_let1 (den_mk (r := [f].map eCoin) rfl rfl (by simp)) ?_
        refine den_let1 (den_call rfl (sp_rSameCoins_at [f] [f]) rfl) ?_
        exact den_ret rfl (by rw [decide_eq_true True.intro]; rfl)
    · obtain ⟨e1, e2, e3⟩ := bad_all hb p q
      rw [e1] at b1
      rw [e2] at b2
      rw [e3] at b3
      repeat' (first | refine den_let1 (by first | exact dx_eql rfl rfl | exact dx_neq rfl rfl | exact dx_lss rfl rfl | exact dx_gtr rfl rfl | exact dx_geq rfl rfl | exact dx_leq rfl rfl | exact dx_len rfl | exact den_add rfl rfl (by omega) | exact den_sub rfl rfl (by omega) | exact dx_idx rfl rfl (by omega) (by first | assumption | exact hx) rfl | exact den_call rfl (b1) rfl | exact den_call rfl (b2) rfl | exact den_call rfl (b3) rfl | exact den_call rfl (sp_rCheckCoins_at l) rfl | exact den_call rfl (sp_lThere_at) rfl | exact den_call rfl (sp_unSame_at l m) rfl | exact den_call rfl (sp_rSameCoins_at l m) rfl | exact dx_not rfl | exact dx_len0 rfl | exact dx_eqS rfl rfl | exact dx_neS rfl rfl | exact dx_eqB rfl rfl | exact dx_neB rfl rfl | exact dx_eqP rfl rfl rfl rfl | exact dx_neP rfl rfl rfl rfl | exact dx_neg rfl (by omega) | exact dx_cutl rfl rfl (by omega) (by omega) (by assumption) | exact den_mk (r := [[I _]]) rfl rfl (by simp) | exact dx_sel rfl rfl (by omega) rfl | exact dx_mn rfl rfl | exact dx_slen rfl | exact dx_app1 (fun _ => rfl) rfl rfl (by first | omega | (simp only [List.length_append, List.length_cons, List.length_nil]; omega))) ?_ | refine den_ck (by exact dx_inr rfl rfl (by omega) (by omega)) ?_ | refine den_lets (by first | exact dx_el rfl rfl (by omega) (by first | assumption | exact hx) (by rfl) | exact dx_calls rfl (b1) (by rfl) | exact dx_calls rfl (b2) (by rfl) | exact dx_calls rfl (b3) (by rfl) | exact dx_calls rfl (sp_rCheckCoins_at l) (by rfl) | exact dx_calls rfl (sp_lThere_at) (by rfl) | exact dx_calls rfl (sp_unSame_at l m) (by rfl) | exact dx_calls rfl (sp_rSameCoins_at l m) (by rfl) | exact denXs_cons (dx_idx rfl rfl (by omega) (by first | assumption | exact hx) rfl) (denXs_cons (dx_idx rfl rfl (by omega) (by first | assumption | exact hx) rfl) denXs_nil)) ?_ (by simp only [eCoin, eTx, eIn, eOut, eOp, ePoint, eInt, eStr, eBlock, eTree, eBook, eUndo, eBool, List.cons_append, List.nil_append]; try exact rfl) | exact den_ret rfl rfl | refine den_ifR rfl (by with_reducible rfl) (fun h => ?_) (fun h => ?_) | refine den_ifB rfl (by with_reducible rfl) (fun h => ?_) (fun h => ?_) | refine den_ifC rfl (by with_reducible rfl) (fun h => ?_) (fun h => ?_) | refine den_ifBn rfl (by with_reducible rfl) (fun h => ?_) (fun h => ?_) | refine den_ifF rfl (by with_reducible rfl) (fun h => ?_) (fun h => ?_) | refine den_ifFn rfl (by with_reducible rfl) (fun h => ?_) (fun h => ?_) | refine den_ifAndOr rfl (by with_reducible rfl) (fun h => ?_) (fun h => ?_) | refine den_ifOrAnd rfl (by with_reducible rfl) (fun h => ?_) (fun h => ?_) | refine den_ifAnd rfl (by with_reducible rfl) (fun h => ?_) (fun h => ?_) | refine den_ifOr rfl (by with_reducible rfl) (fun h => ?_) (fun h => ?_) | refine den_band rfl (by with_reducible rfl) (fun h => ?_) (fun h => ?_) | refine den_bor rfl (by with_reducible rfl) (fun h => ?_) (fun h => ?_) | refine den_T rfl (by first | assumption | omega) ?_ | refine den_F rfl (by first | assumption | omega) ?_ | refine den_t rfl ?_ | refine den_f rfl ?_ | refine den_sp rfl (fun h => ?_) (fun h => ?_))
      · exact absurd rfl h
      · refine den_let1 (den_mk (r := [coin0].map eCoin) rfl rfl (by simp)) ?_
        refine den_let1 (den_mk (r := [coin0].map eCoin) rfl rfl (by simp)) ?_
        refine den_let1 (den_call rfl (sp_rSameCoins_at [coin0] [coin0]) rfl) ?_
        exact den_ret rfl rfl
theorem unspentFinds_walk (l : List (Coin)) (A_l : Option Addr) (n_l c_l : Nat) (p : Point) (c_p : List Value) (q : List (Op)) (A_q : Option Addr) (n_q c_q : Nat) (m : List (Coin)) (A_m : Option Addr) (n_m c_m : Nat) (w : World) (h_l : Rds shCoin w (Lt w.heap.size) l A_l n_l c_l) (h_p : shPoint.rep w (Lt w.heap.size) p c_p) (h_q : Rds shOp w (Lt w.heap.size) q A_q n_q c_q) (h_m : Rds shCoin w (Lt w.heap.size) m A_m n_m c_m) :
    Calls Try.prog 15 #[.slice A_l n_l c_l, .agg c_p.toArray, .slice A_q n_q c_q, .slice A_m n_m c_m] w fun e w' => e = .returned (.bool true) ∧ Below w.heap.size w w' :=
  meets_calls (F := Lt w.heap.size) (us := [.slice A_l n_l c_l, .agg c_p.toArray, .slice A_q n_q c_q, .slice A_m n_m c_m]) rfl (en_of (fn := Try.f15) (by kernel_rfl) (by kernel_rfl) (by kernel_rfl)) m_lUnFinds (fun _ h => h) (spD_at (f := fun _ => true) (l, p, q, m) trivial)
    (pks_mk_one (rds_rep she_coin h_l) (pks_mk_agg (d1 := ePoint p) (she_point.to h_p) rfl (pks_mk_one (rds_rep she_op h_q) (pks_mk_one (rds_rep she_coin h_m) pks_mk_nil))))
end Go.Proofs.Ytnnbnjanekibpaa
