/-
  THE VALUE MACHINE, 22: the rewriting lemmas of a walk by rewriting, in one (ws); those that prove what they ask (ds). Printed by mkVk.py.
-/
import Derived.Test.YtjbpnhmjnkolbaaDoorVj
set_option linter.unusedVariables false
set_option linter.unusedSimpArgs false
namespace Go.Proofs.YtjbpnhmjnkolbaaDoor
open Go.RowKit
section
variable {x y z : Operand} {t t' : TypeId} {f : Nat} {q : BinOp} {r : UnOp} {as as' : Array Operand} {ts : Array TypeId} {l h k : Option Operand} {fn : Fn} {ps : Array (Nat × Operand)} {bb : Bool}
theorem sB_move : stopB (.move x) = false := rfl
theorem sB_assign : stopB (.assign x) = false := rfl
theorem sB_pick : stopB (.pick x y z) = false := rfl
theorem sB_nilCheck : stopB (.nilCheck x) = false := rfl
theorem sB_binOp : stopB (.binOp q t x y t') = false := rfl
theorem sB_unOp : stopB (.unOp r t x) = false := rfl
theorem sB_convert : stopB (.convert t t' x) = false := rfl
theorem sB_fieldAddr : stopB (.fieldAddr t x f) = false := rfl
theorem sB_field : stopB (.field t x f) = false := rfl
theorem sB_indexAddr : stopB (.indexAddr t x y) = false := rfl
theorem sB_index : stopB (.index t x y) = false := rfl
theorem sB_extract : stopB (.extract x f) = false := rfl
theorem sB_slice : stopB (.slice t x l h k) = false := rfl
theorem sB_build : stopB (.build t ps) = false := rfl
theorem sB_makeFunc : stopB (.makeFunc fn as as') = false := rfl
theorem sB_makeInterface : stopB (.makeInterface t x) = false := rfl
theorem sB_load : stopB (.load t x) = false := rfl
theorem sB_store : stopB (.store t x y) = false := rfl
theorem sB_box : stopB (.box t x) = false := rfl
theorem sB_alloc : stopB (.alloc t) = false := rfl
theorem sB_buildSlice : stopB (.buildSlice t f ps) = false := rfl
theorem sB_makeMap : stopB (.makeMap t l) = false := rfl
theorem sB_lookup : stopB (.lookup t x y bb) = false := rfl
theorem sB_mapUpdate : stopB (.mapUpdate t x y z) = false := rfl
theorem sB_insert : stopB (.insert t x y z) = false := rfl
theorem sB_makeSlice : stopB (.makeSlice t x y) = false := rfl
theorem sB_range : stopB (.range t x) = false := rfl
theorem sB_next : stopB (.next x bb) = false := rfl
theorem sB_entry : stopB (.entry x) = false := rfl
theorem sB_typeAssert : stopB (.typeAssert x t t' bb) = false := rfl
theorem sB_panic : stopB (.panic x) = false := rfl
theorem sB_mapEntry : stopB (.mapEntry t x y) = false := rfl
theorem sB_entryStore : stopB (.entryStore t x y z) = false := rfl
theorem sB_blen : stopB (.call { callee := .builtin .len, args := as, argTypes := ts }) = false := rfl
theorem sB_bmax : stopB (.call { callee := .builtin .max, args := as, argTypes := ts }) = false := rfl
theorem sB_bmin : stopB (.call { callee := .builtin .min, args := as, argTypes := ts }) = false := rfl
theorem sB_bunsafeSliceData : stopB (.call { callee := .builtin .unsafeSliceData, args := as, argTypes := ts }) = false := rfl
theorem sB_bunsafeString : stopB (.call { callee := .builtin .unsafeString, args := as, argTypes := ts }) = false := rfl
theorem sB_bclear : stopB (.call { callee := .builtin .clear, args := as, argTypes := ts }) = false := rfl
theorem sB_bcopy : stopB (.call { callee := .builtin .copy, args := as, argTypes := ts }) = false := rfl
theorem sB_bcap : stopB (.call { callee := .builtin .cap, args := as, argTypes := ts }) = false := rfl
theorem sB_bdelete : stopB (.call { callee := .builtin .delete, args := as, argTypes := ts }) = false := rfl
theorem sB_bprint : stopB (.call { callee := .builtin .print, args := as, argTypes := ts }) = false := rfl
theorem sB_bprintln : stopB (.call { callee := .builtin .println, args := as, argTypes := ts }) = false := rfl
theorem sB_brecover : stopB (.call { callee := .builtin .recover, args := as, argTypes := ts }) = false := rfl
theorem sB_val : stopB (.call { callee := .value x, args := as, argTypes := ts }) = true := rfl
theorem sB_app : stopB (.call { callee := .builtin .append, args := as, argTypes := ts }) = true := rfl
theorem fk_one : fkB .one = false := rfl
theorem fk_sil : fkB .sil = false := rfl
theorem fk_rd : fkB .rd = false := rfl
theorem fk_fk : fkB .fk = true := rfl
end
theorem RoundQ.next {σ : Type} {l K : List Nat} {ks : List MV} {ms : σ → List MV} {I : σ → VH → Prop} {μ : σ → Nat} {s : σ} {Q : VQ} {e : Env} {O : VH} (s' : σ) (hk : looks e K = some ks) (hl : looks e l = some (ms s')) (hI : I s' O) (hm : μ s' < μ s) : RoundQ l K ks ms I μ s Q .normal e O := ⟨hk, s', hl, hI, hm⟩
set_option linter.defProp false in
def ws0 := And.intro @sB_move <| And.intro @sB_assign <| And.intro @sB_pick <| And.intro @sB_nilCheck <| And.intro @sB_binOp <| And.intro @sB_unOp <| And.intro @sB_convert <| And.intro @sB_fieldAddr <| And.intro @sB_field <| And.intro @sB_indexAddr <| And.intro @sB_index <| And.intro @sB_extract <| And.intro @sB_slice <| And.intro @sB_build <| And.intro @sB_makeFunc <| And.intro @sB_makeInterface <| And.intro @sB_load <| And.intro @sB_store <| And.intro @sB_box <| And.intro @sB_alloc <| And.intro @sB_buildSlice <| And.intro @sB_makeMap <| And.intro @sB_lookup <| And.intro @sB_mapUpdate <| And.intro @sB_insert <| And.intro @sB_makeSlice <| And.intro @sB_range <| And.intro @sB_next <| And.intro @sB_entry <| And.intro @sB_typeAssert <| And.intro @sB_panic <| And.intro @sB_mapEntry <| And.intro @sB_entryStore <| And.intro @sB_blen <| And.intro @sB_bmax <| And.intro @sB_bmin <| And.intro @sB_bunsafeSliceData <| And.intro @sB_bunsafeString <| And.intro @sB_bclear <| And.intro @sB_bcopy <| And.intro @sB_bcap <| And.intro @sB_bdelete <| And.intro @sB_bprint <| And.intro @sB_bprintln <| And.intro @sB_brecover <| And.intro @sB_val <| And.intro @sB_app <| And.intro @fk_one <| And.intro @fk_sil <| And.intro @fk_rd <| And.intro @fk_fk <| And.intro @WL_nil <| And.intro @WL_cons <| And.intro @W1_stop <| And.intro @W1_go <| And.intro @W1_skip <| And.intro @W2_some <| And.intro @W2_none <| And.intro @W3_true <| And.intro @StopW_call <| And.intro @StopW_append <| And.intro @WC_skip <| And.intro @WC_exit <| And.intro @WC_label <| And.intro @WC_ret <| And.intro @WC_scope <| And.intro @WC_block <| And.intro @NextW_eq <| And.intro @WC_seq <| And.intro @WC_cond <| And.intro @WC_region <| And.intro @WC_drawn <| And.intro @WC_loop <| And.intro @SeqW_normal <| And.intro @SeqW_exit <| And.intro @SeqW_goto <| And.intro @SeqW_ret <| And.intro @SeqW_panic <| And.intro @CondW_t @CondW_f
set_option linter.defProp false in
def ws1 := And.intro @vres_nil <| And.intro @vres_cons <| And.intro @vresult_tmp <| And.intro @vresult_cell <| And.intro @RetW_0 <| And.intro @RetW_1 <| And.intro @RetW_2 <| And.intro @RetW_3 <| And.intro @RetW_4 <| And.intro @EndW_normal <| And.intro @EndW_ret <| And.intro @EndW_panic <| And.intro @ScopeQ_normal <| And.intro @ScopeQ_exit <| And.intro @ScopeQ_ret <| And.intro @ScopeQ_panic <| And.intro @RoundQ_exit <| And.intro @RoundQ_goto <| And.intro @RoundQ_ret <| And.intro @RoundQ_panic <| And.intro @BlockQ_normal <| And.intro @BlockQ_exit <| And.intro @BlockQ_goto <| And.intro @BlockQ_ret <| And.intro @BlockQ_panic <| And.intro @Ret_ret <| And.intro @vnil_p <| And.intro @vnil_c <| And.intro @mcells_v <| And.intro @mcells_sl <| And.intro @mcells_str <| And.intro @mcells_ptr <| And.intro @mcells_agg <| And.intro @vop_makeMap <| And.intro @vop_lookup <| And.intro @vop_mapUpdate <| And.intro @vop_insert <| And.intro @opK_makeMap <| And.intro @opK_lookup <| And.intro @opK_mapUpdate <| And.intro @opK_insert <| And.intro @vopF_one <| And.intro @vopF_sil <| And.intro @vopF_rd <| And.intro @vopS_1 <| And.intro @vopS_2 <| And.intro @vopS_4 <| And.intro @vopR_1 <| And.intro @vopR_2 <| And.intro @vopR_5 <| And.intro @vopR_4 <| And.intro @vloadc_c <| And.intro @opK_move <| And.intro @opK_assign <| And.intro @opK_pick <| And.intro @opK_nilCheck <| And.intro @opK_binOp <| And.intro @opK_unOp <| And.intro @opK_convert <| And.intro @opK_fieldAddr <| And.intro @opK_field <| And.intro @opK_indexAddr <| And.intro @opK_index <| And.intro @opK_extract <| And.intro @opK_slice <| And.intro @opK_build <| And.intro @opK_makeFunc <| And.intro @opK_makeInterface <| And.intro @opK_load <| And.intro @opK_value <| And.intro @opK_len <| And.intro @opK_max <| And.intro @opK_min <| And.intro @opK_append <| And.intro @opK_sdata <| And.intro @opK_store <| And.intro @opK_box <| And.intro @opK_alloc <| And.intro @opK_buildSlice @opK_makeSlice
set_option linter.defProp false in
def ws2 := And.intro @beqT <| And.intro @beqF <| And.intro @beqI_t <| And.intro @beqI_f <| And.intro @bneI_t <| And.intro @bneI_f <| And.intro @vguard_none <| And.intro @vguard_some <| And.intro @dstB_some <| And.intro @dstB_none <| And.intro @putM_some <| And.intro @putM_none <| And.intro @wrap_i64 <| And.intro @vop_move <| And.intro @vop_assign <| And.intro @vpick_t <| And.intro @vmax_i <| And.intro @vmin_i <| And.intro @vop_nilCheck <| And.intro @vop_binOp <| And.intro @vop_unOp <| And.intro @vop_convert <| And.intro @vop_fieldAddr <| And.intro @vop_field <| And.intro @vop_indexAddr <| And.intro @vop_index <| And.intro @vop_extract <| And.intro @vop_build <| And.intro @vop_makeFunc <| And.intro @vop_slice <| And.intro @vop_slice3 <| And.intro @evo_none <| And.intro @evo_some <| And.intro @vop_lenT <| And.intro @vop_max <| And.intro @vop_min <| And.intro @vop_sdata <| And.intro @vop_load <| And.intro @vop_store <| And.intro @vop_box <| And.intro @vop_allocT <| And.intro @vop_buildSlice <| And.intro @vop_makeSlice <| And.intro @ev_tmp <| And.intro @ev_int <| And.intro @ev_bool <| And.intro @ev_str <| And.intro @ev_nilsl <| And.intro @ev_nilptr <| And.intro @ev_nilmap <| And.intro @ev_niliface <| And.intro @ev_nilfunc <| And.intro @ev_func <| And.intro @look_cons <| And.intro @evs_nil <| And.intro @evs_cons <| And.intro @vbin_add <| And.intro @vbin_sub <| And.intro @vbin_mul <| And.intro @vbin_eql <| And.intro @vbin_neq <| And.intro @vbin_lss <| And.intro @vbin_leq <| And.intro @vbin_gtr <| And.intro @vbin_geq <| And.intro @vun_neg <| And.intro @vun_not <| And.intro @mi_def <| And.intro @mb_def <| And.intro @pairs_cons <| And.intro @pairs_nil <| And.intro @lenT_str <| And.intro @lenT_sl <| And.intro @lenT_asl <| And.intro @lenT_nil <| And.intro @lenT_map <| And.intro @lenT_arr <| And.intro @wlen_some <| And.intro @wlen_none @vixT
set_option linter.defProp false in
def ws3 := And.intro @ixT_sl <| And.intro @ixT_asl <| And.intro @ixT_arr <| And.intro @ixS_ok <| And.intro @ixR_ok <| And.intro @ixA_ok <| And.intro @maddr_p <| And.intro @maddr_c <| And.intro @vinT <| And.intro @inT_ok <| And.intro @vldP <| And.intro @vldC <| And.intro @ldT_ok <| And.intro @vcell_f <| And.intro @vcell_t <| And.intro @agB_bool <| And.intro @agB_int <| And.intro @agB_str <| And.intro @agB_ptr <| And.intro @agB_sl <| And.intro @agB_map <| And.intro @agB_arr <| And.intro @agB_if <| And.intro @agB_fn <| And.intro @vstT <| And.intro @stT_v <| And.intro @stT_s <| And.intro @stT_p <| And.intro @stT_c <| And.intro @stT_sl <| And.intro @stT_asl <| And.intro @stT_map <| And.intro @stT_if <| And.intro @stT_fn <| And.intro @stT_agg <| And.intro @setMany_nil <| And.intro @setMany_cons <| And.intro @hp_set <| And.intro @hp_set_ne <| And.intro @hp_push <| And.intro @hp_push_ne <| And.intro @hp_kill_ne <| And.intro @next_set <| And.intro @next_push <| And.intro @next_kill <| And.intro @allocO_eq <| And.intro @alB_t <| And.intro @alB_f <| And.intro @bld_t <| And.intro @bld_0 <| And.intro @bld_1 <| And.intro @bld_3 <| And.intro @bld_int <| And.intro @bld_bool <| And.intro @bld_str <| And.intro @bld_sl <| And.intro @bld_s2 <| And.intro @bld_v2 <| And.intro @vslT <| And.intro @slT_s <| And.intro @slT_s1 <| And.intro @slT_s2 <| And.intro @slT_a <| And.intro @slT_a1 <| And.intro @slT_a2 <| And.intro @slA_0 <| And.intro @slA_ne <| And.intro @slA_eq <| And.intro @slT_l <| And.intro @slT_l1 <| And.intro @slT_l2 <| And.intro @slT_l0 <| And.intro @slS_all <| And.intro @slS_part <| And.intro @vcvT <| And.intro @cvT_int <| And.intro @cvT_str <| And.intro @cvT_sb <| And.intro @cvT_bs @cvT_pu
set_option linter.defProp false in
def ws4 := And.intro @cvT_up <| And.intro @zipPartsL <| And.intro @zipL_nil <| And.intro @zipL_cons <| And.intro @vfill_nil <| And.intro @vfill_cons <| And.intro @placeL_0 <| And.intro @placeL_s <| And.intro @placeR_eq <| And.intro @flT_ok <| And.intro @vbsT <| And.intro @bsT_sl <| And.intro @bsE_0 <| And.intro @bsE_ok <| And.intro @repL_1 <| And.intro @repL_2 <| And.intro @repL_3 <| And.intro @repL_4 <| And.intro @repL_5 <| And.intro @repL_6 <| And.intro @repL_7 <| And.intro @repL_8 <| And.intro @vbin_beq <| And.intro @vbin_bne <| And.intro @bT_ok <| And.intro @pT_ok <| And.intro @vptr_e <| And.intro @vptr_n <| And.intro @vbin_pnn <| And.intro @vbin_ppn <| And.intro @vbin_pnp <| And.intro @vbin_pcn <| And.intro @vbin_pnc <| And.intro @vbin_agg <| And.intro @vbin_seq <| And.intro @vbin_sne <| And.intro @vbin_slt <| And.intro @vbin_sle <| And.intro @vbin_sgt <| And.intro @vbin_sge <| And.intro @vbin_sadd <| And.intro @tn_add <| And.intro @tn_add1 <| And.intro @tn_add2 <| And.intro @tn_sub1 <| And.intro @cast_dec <| And.intro @wrapU8 <| And.intro @wrapU64 <| And.intro @vrem_ok <| And.intro @vquo_ok <| And.intro @vshr_ok <| And.intro @vand_ok <| And.intro @Option.map_none.{0,0} <| And.intro @Option.bind_none.{0,0} <| And.intro @Int.zero_sub <| And.intro @Bool.not_true <| And.intro @Bool.not_false <| And.intro @Bool.or_false <| And.intro @Bool.or_true <| And.intro @Bool.true_or <| And.intro @Bool.false_or <| And.intro @Bool.and_true <| And.intro @Bool.and_false <| And.intro @Bool.true_and <| And.intro @Bool.false_and <| And.intro @decide_true <| And.intro @decide_eq_true <| And.intro @decide_eq_false <| And.intro @Nat.zero_add <| And.intro @Nat.mul_one <| And.intro @Int.toNat_natCast <| And.intro @Nat.add_zero <| And.intro @Nat.sub_zero <| And.intro @List.set_cons_zero.{0} <| And.intro @List.set_cons_succ.{0} <| And.intro @List.take_succ_cons.{0} <| And.intro @List.take_zero.{0} <| And.intro @List.drop_succ_cons.{0} <| And.intro @List.drop_zero.{0} @List.getElem?_toArray.{0}
set_option linter.defProp false in
def ws5 := And.intro @List.getElem?_cons_zero.{0} <| And.intro @List.getElem?_cons_succ.{0} <| And.intro @Option.bind_some.{0,0} <| And.intro @Option.map_some.{0,0} <| And.intro @List.map_cons.{0,0} <| And.intro @List.map_nil.{0,0} <| And.intro @List.getElem?_map.{0,0} <| And.intro @List.getElem_map.{0,0} <| And.intro @if_true.{1} <| And.intro @if_false.{1} <| And.intro @cond_true.{1} <| And.intro @cond_false.{1} <| And.intro @List.toList_toArray.{0} <| And.intro @List.cons_append.{0} <| And.intro @List.nil_append.{0} <| And.intro @true_and <| And.intro @and_true <| And.intro @eq_self.{1} @Bool.false_eq_true
set_option linter.defProp false in
def ws := And.intro @ws0 <| And.intro @ws1 <| And.intro @ws2 <| And.intro @ws3 <| And.intro @ws4 @ws5
set_option linter.defProp false in
def ds := And.intro @next_set <| And.intro @next_push <| And.intro @next_kill <| And.intro @mcells_v <| And.intro @mcells_sl <| And.intro @mcells_str <| And.intro @mcells_ptr <| And.intro @mcells_agg <| And.intro @leaf_v <| And.intro @leaf_s <| And.intro @leaf_p <| And.intro @leaf_c <| And.intro @leaf_sl <| And.intro @leaf_asl <| And.intro @leaf_map <| And.intro @leaf_if <| And.intro @leaf_fn <| And.intro @List.length_cons.{0} <| And.intro @List.length_nil.{0} <| And.intro @List.all_cons.{0} <| And.intro @List.all_nil.{0} <| And.intro @Bool.and_true <| And.intro @Bool.true_and <| And.intro @Bool.and_self <| And.intro @List.length_set.{0} <| And.intro @List.length_append.{0} <| And.intro @List.length_map.{0,0} <| And.intro @and_true <| And.intro @true_and <| And.intro @eq_self.{1} <| And.intro @Option.some.injEq.{0} <| And.intro @VObj.cells.injEq <| And.intro @ne_eq.{1} @not_false_eq_true
end Go.Proofs.YtjbpnhmjnkolbaaDoor
