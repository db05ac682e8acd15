import Derived.Test.YtkdneaemikbhkaaGreatDoorZ02
import Derived.Test.YtkdneaemikbhkaaGreatDoorRows
import Derived.WalkKit
import Derived.ProofKit
import Derived.OpenShut
import Derived.Handy
import Derived.WalkLawsBesides
import Derived.WalkSpells
import Derived.Lib.Hide
import Derived.Lib.Strings
import Derived.Laws.IdiomStrings
import Derived.Deep.LoopGhost
import Derived.ShutString
import Derived.Lib.Builder
import Derived.Deep.Draws
import Derived.Deep.MidRow
import Derived.Deep.AppendLies
import Derived.Deep.RegionHeld3
import Derived.Deep.QuietTactic
import Derived.BigQuiet
import Derived.SizedLaws
import Derived.HandedShaped
import Derived.Deep.Slices
import Derived.Lib.SplitLaws
import Derived.Lib.Join
import Derived.Shelf.Strings.SlTrimAscii
import Derived.Lib.IndexMore
import Derived.Lib.IndexBytes
import Derived.Lib.AppendStr
import Derived.Lib.UnsafeStr
import Derived.Laws.Externs
import Derived.Lib.SliceRun
import Derived.Deep.RegionLaw
import Derived.ArgAppend
import Derived.Shelf.GgClosure.Gives
import Derived.Lib.LastIndexByte
import Derived.Deep.Cut
import Derived.Deep.DeepCutAuto
import Derived.Deep.CutBlock
import Derived.Maps.RangeWalk
import Derived.Laws.StructEq
import Derived.LaidEql
import Derived.Stop.Asserts
import Derived.RowKitTokens
import Derived.Deep.RegionWith
import Derived.Lib.SlicesCompact
import Derived.Sort.OwnSorted
import Derived.Maps.OwnOps
import Derived.Lib.LaidTab
import Derived.LaidLaws
import Derived.WalkSmall
import Derived.Stop.Joined
import Derived.Maps.Keyed
import Derived.Lib.ItoaLen
import Derived.WalkMore
import Derived.BigRegion
import Derived.Laws.BitsAllLaws
import Derived.Laws.BitsLemmas
import Derived.Laws.BytesArg
import Derived.StillTailTactics
import Derived.RangeFuncNested
import Derived.RangeFuncBound
import Derived.RangeFuncCalls
import Derived.RangeFuncLeaves
import Derived.Shelf.Abstract
import Derived.Shelf.RegionOpen
import Derived.OwnWalkIn
import Derived.TacticsInMore
import Derived.LoopNIn
import Derived.LoopIn
set_option linter.all false
set_option maxRecDepth 100000
set_option maxHeartbeats 40000000
namespace Go.Proofs.YtkdneaemikbhkaaGreatDoor
open _root_.Go.Proofs.Tryz
open Go.RowKit Go.Deep
set_option linter.defProp false
variable{P Q:Prop}
abbrev de:=@Nat.le_trans
abbrev al1:=@Nat.lt_succ_self
abbrev aL:=@Below.refl
abbrev pV:=@Nat.le_succ
abbrev gK:=@Nat.le_refl
abbrev Hp:=@Lib.size_eq
abbrev VG:=@ByteArray.size_append
abbrev rR:=@World.block_lt_of_cell?
abbrev VW:=@World.ownsRow_nil
abbrev VH:=@List.length_eq_zero_iff
abbrev bt:=@Nat.zero_le
abbrev lp:=@Nat.zero_add
abbrev Mv:=@cell_of_row
abbrev xA:=@heap_alloc_new
abbrev CJ:=@List.getElem?_map
abbrev j7:=@List.getElem?_eq_getElem
abbrev ni:=@info_parts
abbrev vA:=@wpList_append_own
abbrev Fw:=@cell_one_new
abbrev uO:=@Array.getElem?_eq_some_iff
abbrev adB:=@Lib.cell_of_heap
abbrev VX:=@Lib.frozen_of_heap
abbrev adC:=@Array.getElem?_modify
abbrev VY:=@Below.heap_setCell
abbrev eP:=@Nat.lt_of_lt_of_le
abbrev adD:=@Below.heap_alloc
abbrev My:=@Array.getElem?_eq_getElem
abbrev vB:=@List.foldl_cons
abbrev qF:=@List.length_nil
abbrev Ad:=@Nat.add_zero
abbrev V0:=@List.foldl_nil
abbrev oW:=@List.append_nil
abbrev Ae:=@List.take_of_length_le
abbrev adE:=@Array.toList_setIfInBounds
abbrev gW:=@List.take_succ_eq_append_getElem
abbrev cD:=@wpList_load_mid
abbrev V1:=@wpList_store_mid
abbrev Af:=@List.flatMap_cons
abbrev HD:=@Nat.succ_mul
abbrev iG:=@List.length_append
abbrev iN:=@List.length_cons
abbrev nj:=@Nat.mul_le_mul_right
abbrev SC:=@List.getElem?_take
abbrev a':=@if_pos
abbrev SD:=@Nat.one_mul
abbrev uQ:=@List.mem_cons
abbrev y':=@List.not_mem_nil
abbrev y_:=@or_false
abbrev adF:=@List.getElem_append_right
abbrev SF:=@Nat.min_eq_left
abbrev ma:=@Nat.le_of_lt
abbrev SG:=@List.getElem_append_left
abbrev aY:=@if_neg
abbrev V2:=@run_bytes_of_string
abbrev J:=@Lib.hid
abbrev HG:=@run_convert_bytes_back
abbrev Fy:=@UInt8.toNat.inj
abbrev iQ:=@run_string_add_sum
abbrev oX:=@congrArg
abbrev ah4:=@List.find?_eq_some_iff_getElem
abbrev SI:=@List.find?_eq_none
abbrev ej:=@List.getElem_mem
abbrev pC:=@List.all_eq_true
abbrev vE:=@List.all_append
abbrev xC:=@Bool.and_eq_true
abbrev Fz:=@List.all_cons
abbrev MD:=@decide_eq_true_eq
abbrev jM:=@List.mem_map
abbrev tJ:=@Nat.not_lt_zero
abbrev CM:=@List.take_zero
abbrev V8:=@List.drop_succ_cons
abbrev MF:=@List.drop_zero
abbrev MG:=@List.cons.injEq
abbrev MI:=@World.cell?_setCell_other
abbrev adG:=@World.cell?_setCell_same
abbrev fq:=@List.take_length
abbrev eR:=@Lib.toList_data
abbrev SL:=@Lib.join_cons
abbrev rK:=@List.drop_eq_getElem_cons
abbrev r7:=@List.takeWhile_cons
abbrev zb:=@List.drop_eq_nil_of_le
abbrev MM:=@List.takeWhile_sublist
abbrev adH:=@Option.map_eq_some_iff
abbrev An:=@List.dropWhile_cons
abbrev SM:=@List.all_reverse
abbrev CN:=@List.dropWhile_sublist
abbrev HP:=@Int.toNat_natCast
abbrev MU:=@Value.slice.injEq
abbrev SO:=@Nat.div_lt_iff_lt_mul
abbrev lx:=@Nat.mod_lt
abbrev uR:=@Nat.mul_comm
abbrev MV:=@Nat.div_add_mod
abbrev adI:=@List.getElem?_eq_none
abbrev ou:=@List.length_take
abbrev Wg:=@List.getElem_take
abbrev cR:=@Option.some.inj
abbrev SP:=@Nat.add_mul
abbrev adJ:=@World.cell?_setCells_out
abbrev SQ:=@Nat.sub_mul
abbrev SR:=@List.length_set
abbrev Px:=@run_storeCells_cells
abbrev Ar:=@List.filter_append
abbrev ld:=@World.ownsRow.lt
abbrev o9:=@Addr.add_mid
abbrev Pz:=@Nat.zero_lt_one
abbrev HT:=@wpList_plain
abbrev kx:=@List.mem_singleton
abbrev HU:=@Sem.run_bind
abbrev HV:=@Result.andThen_ok
abbrev PA:=@Bool.or_eq_false_iff
abbrev HZ:=@List.any_eq_false
abbrev ys:=@List.any_eq_true
abbrev ek:=@List.mem_append
abbrev PB:=@Array.all_eq_true_iff_forall_mem
abbrev fX:=@List.length_drop
abbrev DP:=@List.mem_flatMap
abbrev Ii:=@step_append_room
abbrev o':=@List.getElem?_eq_some_iff
abbrev Iw:=@Int.le_refl
abbrev fY:=@List.mem_filter
abbrev PK:=@List.filter_filter
abbrev PL:=@List.filter_congr
abbrev PM:=@List.take_append_drop
abbrev Iy:=@List.filter_eq_self
abbrev PN:=@List.pairwise_cons
abbrev p4:=@List.nil_append
abbrev IB:=@Array.getD_eq_getD_getElem?
abbrev b9:=@World.size_alloc
abbrev bL:=@bodyPost_ret
abbrev DR:=@List.mem_cons_of_mem
abbrev je:=@List.map_append
abbrev ue:=@List.map_singleton
abbrev ct:=@List.length_map
abbrev uf:=@List.mem_map_of_mem
abbrev fx:=@List.length_filter_le
abbrev DV:=@List.any_map
abbrev vY:=@List.getElem_map
abbrev yu:=@List.mem_of_mem_drop
abbrev AI:=@List.map_drop
abbrev IM:=@Nat.sub_eq_zero_of_le
abbrev IQ:=@List.length_pos_iff
abbrev fy:=@IntWalk.i64_in
abbrev sf:=@Lib.extract_data
abbrev AV:=@World.ownsRow.kept
abbrev mT:=@Lib.extract_to_end
abbrev ui:=@List.takeWhile_append_dropWhile
abbrev yB:=@Go.Proofs.ascii_of_all
abbrev D7:=@Bool.eq_iff_iff
abbrev I':=@List.mergeSort_perm
abbrev uj:=@decide_eq_true
abbrev qe:=@of_decide_eq_true
abbrev I_:=@decide_eq_false
abbrev Qa:=@List.any_cons
abbrev D_:=@Bool.false_eq_true
abbrev Jc:=@List.map_cons
abbrev P':=@List.dropLast_eq_take
abbrev wB:=@List.map_map
abbrev P_:=@holds_of_block
abbrev Ba:=@Nat.lt_irrefl
abbrev Ji:=@List.getElem?_toArray
abbrev um:=@List.mem_of_getElem?
abbrev su:=@List.mem_of_find?_eq_some
abbrev Jq:=@World.ownsMap_made
abbrev Qf:=@wpList_mapUpdate_own
abbrev yE:=@WideMaps.keyOf_string_mk
abbrev Eg:=@plainElem_bool
abbrev l7:=@List.append_assoc
abbrev Qh:=@Lib.run_eql_slice_nil
abbrev Ej:=@List.drop_drop
abbrev Bf:=@List.cons_append
abbrev Qj:=@List.reverse_append
abbrev Bl:=@List.foldl_append
abbrev Qk:=@List.mem_cons_self
abbrev wL:=@Nat.mul_le_mul
abbrev Ey:=@Nat.mul_one
abbrev kB:=@Array.getElem?_setIfInBounds
abbrev wP:=@wpAnyH_take
abbrev Bx:=@ByteArray.size_extract
abbrev QF:=@List.mem_append_right
abbrev QG:=@List.isEmpty_iff
abbrev QI:=@Nat.le_add_right
abbrev rz:=@List.getD_eq_getElem?_getD
abbrev Kb:=@Option.some.injEq
abbrev yQ:=@List.any_append
abbrev Kc:=@List.find?_append
abbrev QZ:=@List.find?_some
abbrev qq:=@Below.setCell
abbrev Kj:=@List.head?_eq_getElem?
abbrev Q6:=@Function.comp_def
abbrev sM:=@Nat.pow_succ
abbrev Kt:=@Nat.div_div_eq_div_mul
abbrev EW:=@Nat.pow_le_pow_right
abbrev Q_:=@List.replicate_succ'
abbrev Z9:=@List.drop_append_of_le_length
abbrev Ra:=@BitVec.toNat_and
abbrev Z':=@Nat.and_two_pow_sub_one_eq_mod
abbrev EZ:=@List.map_set
abbrev Kw:=@List.setIfInBounds_toArray
abbrev Ky:=@List.getElem?_drop
abbrev Rh:=@List.length_replicate
abbrev aap:=@Nat.mod_two_eq_zero_or_one
abbrev yZ:=@Nat.lt_of_le_of_lt
abbrev Ri:=@Nat.two_pow_add_eq_or_of_lt
abbrev E0:=@Nat.div_le_self
abbrev E3:=@ByteArray.ext
abbrev Rr:=@grownCap_le_maxLen
abbrev KN:=@List.size_toArray
abbrev Rt:=@UInt8.toNat_lt
abbrev Rv:=@List.getElem?_cons_succ
abbrev Rw:=@List.getElem?_cons_zero
abbrev Ry:=@of_decide_eq_false
abbrev K3:=@Int.tmod_eq_emod_of_nonneg
abbrev abi:=@Int.tdiv_eq_ediv_of_nonneg
abbrev Lg:=@Lib.byteCells_length
abbrev RL:=@Lib.byteCells_append
abbrev Cd:=@World.cell?_setCell_same'
abbrev ahQ:=@World.putObj_heap_other
abbrev alY:=@World.putObj_heap_same
abbrev Lo:=@UInt8.toNat_inj
abbrev RQ:=@Bool.and_false
abbrev Fb:=@cell_kept
abbrev Lp:=@World.frozen?_setCell
abbrev RT:=@KeepsOthers.setCell
abbrev Lq:=@List.getLast?_eq_getElem?
abbrev LJ:=@wpAnyH_ready
abbrev qA:=@AllReadyH.cons
abbrev LK:=@AllReadyH.nil
abbrev Fs:=@yieldsIf_load_mid
abbrev Sz:=@Oper.upon_value
abbrev Mi:=@ByteArray.data_append
def O(h:P:=by omega):=h
def Z(h:P:=by decide):=h
def aJ(h:P:=by rfl):=h
def dU(h:P:=by kernel_rfl):=h
def cJ(h:P:=by go_num):=h
def l3(h:P:=by unfold maxLen;omega):=h
def fK(h:P:=by simp;omega):=h
def nx(h:P:=by simp [Value.oneCell']):=h
def bT(h:P:=by simp):=h
def mS(h:P:=by simp;try omega):=h
def Du(h:P:=by (try simp only[ei]);(try rw[show(⟨#[58]⟩:F).size=1 from I]);omega):=h
def jN(h:P:=by decide +kernel):=h
def pL(h:P:=by have:=nz.out _<|.inl e;omega):=h
def eD(h:P:=by assumption):=h
def Vx(h:P:=by (try simp only[b9]);omega):=h
def rL(h:P:=by rw[<-an];omega):=h
def abf(h:P:=by match j,hj with|0,_ =>rfl|1,_ =>rfl|2,_ =>rfl|3,_ =>rfl|4,_ =>rfl|5,_ =>rfl|6,_ =>rfl|7,_ =>rfl):=h
def y9(h:P:=by unfold Addr.add;split <;> simp_all):=h
def iD(h:P:=by simp [hk]):=h
def wI(h:P:=by rw[IntKind.wrap_i64];omega):=h
def alv(h:P:=by rw[hq.out];exact((((jl.later pG).o_ a3 c3 L hr3 hc3 (gD.own hO Dw) (λg hg=>(jl.tg g<|hgs.out g hg).later pG)).vW a4 c4 M hr4 (gD.own hP Dw) (λg hg=>(jl.tw g<|acZ.out g hg).later pG))).box Vn (by decide) G_ (.inr ⟨by omega,by omega⟩) (by omega)):=h
def GJ(h:P:=by rw[Bx];omega):=h
def O'(h:P:=by unfold bz;simp only[hk];rw[<-h];simp):=h
def MY(h:P:=by first|rfl|(simp [Act.eval,Act.put];done)):=h
def Lu(h:P:=by rcases hk with hk|hk <;> simp [hk]):=h
def zn(h:P:=by intro e;cases e;omega):=h
def A5(h:P:=by rw[<-an];exact hl):=h
def gA(h:P:=by grind):=h
def ak7(h:P:=by refine E6 ?_;intro h8;match j,h8 with|0,_ =>simp [ij,eB]|1,_ =>simp [ij,eB]|2,_ =>simp [ij,eB]|3,_ =>simp [ij,eB]|4,_ =>simp [ij,eB]|5,_ =>simp [ij,eB]|6,_ =>simp [ij,eB]|7,_ =>simp [ij,eB]):=h
def tQ(h:P:=by rw[hr.out];rfl):=h
def xp(h:P:=by simp [cd]):=h
def mf(h:P:=by cases hg):=h
def ai1(h:P:=by rw[cu,hS.out,EV (eP hd'.out<|EW (by decide) jI)];rfl):=h
def ai4(h:P:=by match i,hi with|0,_ =>rfl|1,_ =>rfl|2,_ =>rfl|3,_ =>rfl|4,_ =>rfl|5,_ =>rfl|6,_ =>rfl|7,_ =>rfl):=h
def JI(h:P:=by rcases e with e|e <;> omega):=h
def Zh(h:P:=by have:=nz.out _ (.inr (.inl<|JT _ e));omega):=h
def HR(h:P:=by rw[ou];omega):=h
def Gj(h:P:=by rw[<-an];exact h0):=h
def aeo(h:P:=by have:=hN.out;rwa [fq] at this):=h
def vJ(h:P:=by simpa using h):=h
def x0(h:P:=by simp [oV.arr]):=h
def Lt(h:P:=by have:=sY.out _ e;omega):=h
def TV(h:P:=by simp only[b9];omega):=h
def ad9(h:P:=by rw[iG];have e1:[x'].length=1:=I;omega):=h
def Ij(h:P:=by simp [Act.eval,Act.put]):=h
def afh(h:P:=by simpa using zf.set 2<|.slice a6 n6 c6):=h
def adM(h:P:=by rw[<-SX];exact(o'.1 eu).1):=h
def I3(h:P:=by rw[<-an];exact h):=h
def Ie(h:P:=by rw[SP];omega):=h
def alA(h:P:=by rcases e with(e|e)|e|e;(.exact nD);(.exact Mb);(.exact adl);exact .inl<|.inr ⟨by omega,by (try simp only[b9]);omega⟩):=h
def Tq(h:P:=by rw[beq_eq_false_iff_ne];omega):=h
def C5(h:P:=by rw[jh.out];rfl):=h
def aea(h:P:=by rw[je,ue,hxd.out]):=h
def aiV(h:P:=by rw[zb<|by rw[<-fl];simp [aT]];rfl):=h
def amw(h:P:=by have h':=(aL wr wr).drew.then lJ h;exact⟨⟨Hz.then h',VQ.later h'⟩,gi.later h',de hzr h'.size,hS7.below h'⟩):=h
def ajz(h:P:=by simp only[ei];rw[show(⟨#[58]⟩:F).size=1 from I];omega):=h
def aki(h:P:=by have hs:=rl.size;(try simp only[b9] at hs ⊢);omega):=h
def akO(h:P:=by rw[gw.out];unfold kn;rw[a' QY.out,a' VR.out,EM.out];simp only[D_,if_false,oW];exact hO'):=h
def akP(h:P:=by rw[gw.out];unfold kn;rw[a' QY.out,aY VR.out,EM.out];simp only[D_,if_false,oW];exact hO):=h
def akQ(h:P:=by rw[gw.out];unfold kn;rw[aY QY.out,a' d1'.out,EM.out];simp only[D_,if_false,oW];exact hO):=h
def akG(h:P:=by rw[j7<|by rw[<-an];exact z2,b8 s k3 z2<|by rw[<-an];exact z2] at z3;exact cR z3):=h
def aen(h:P:=by intro h;unfold iT at ht;simp [h] at ht):=h
def Gk(h:P:=by rw[ei];rfl):=h
def adS(h:P:=by simp only[beq_eq_false_iff_ne,ne_eq];omega):=h
def afg(h:P:=by rw[eR] at Zv;simpa using Zv):=h
def alz(h:P:=by rcases e with(e|e)|e|e;(.exact nD);(.exact Mb);(.exact Md);exact .inr (by (try simp only[b9]);omega)):=h
def TO(h:P:=by rw[ct];omega):=h
def air(h:P:=by rw[an,mT,fX,<-an];omega):=h
def aiq(h:P:=by rw[b8 s j cY hl];exact hb):=h
def akA(h:P:=by have e:j=0:=(by simpa using hj);subst e;show(w.cell?<|U b i).isSome=true;rw[hb.cell i<|My hi];rfl):=h
def ae9(h:P:=by show(-9223372036854775808:Int)<=0;decide):=h
def afW(h:P:=by rw[hv.out];exact KG _ _ Rq _ _):=h
def akH(h:P:=by intro h h';apply z3;rw[j7<|by rw[<-an];exact z2,b8 s k3 z2<|by rw[<-an];exact z2,h']):=h
def akR(h:P:=by have h:∀l:List α,P l.reverse:=(by intro l;induction l with|nil =>exact h0|cons a l ih =>grind);simpa using h l.reverse):=h
def afa(h:P:=by show(0:Int)<=9223372036854775807;decide):=h
def ajt(h:P:=by have:=cR e;have:=sY.out _<|Or.inr I;omega):=h
def Zl(h:P:=by intro e;cases e;exact iL I):=h
def amv(h:P:=by unfold hQ;rw[hD.out.2.2.1,a' rfl];first|done|(generalize bP qv.data.toList=t;obtain⟨x,y,z⟩:=t;rfl)):=h
def Tz(h:P:=by rw[<-an];exact cY):=h
def akM(h:P:=by have:=Mo.out;rw[fq] at this;unfold gg;rw[CM,List.map_nil,oW];exact this):=h
def akD(h:P:=by rw[hq.out,hinv.out,lA.out,Wb _ _ h34];simp only[Option.map_some,fX,<-an];congr 2;omega):=h
def akF(h:P:=by have h1:=yy.out;rw[rS.out,oW] at h1;exact⟨o3 h1,by unfold dt;rw[<-h1,kR.out];omega⟩):=h
def uT(h:P:=by simp [h]):=h
def aik(h:P:=by rw[<-rK h,PM]):=h
def ale(h:P:=by show Value.string _=Value.string (B6 u p);congr 1;exact kq (by unfold B6;rw[cu,ald.out])):=h
def alB(h:P:=by rcases e with e|e|e;(.exact nD);(.exact Md);exact .inr (by (try simp only[b9]);omega)):=h
def ai3(h:P:=by simp [IntKind.wrap,IntKind.bits,IntKind.signed];omega):=h
def JD(h:P:=by simpa using pB):=h
def JE(h:P:=by simp_all [TR]):=h
def Wr(h:P:=by rw[fX];omega):=h
def akE(h:P:=by rw[hq.out,hinv.out,lA.out,zb<|by rw[<-an];omega,Wc _ CX.out];rfl):=h
def alf(h:P:=by rw[eR];(cases hq:T.data.toList with|nil =>rw[an,hq] at h0;simp at h0|cons a r =>rfl)):=h
def BG(h:P:=by rw[hr.out]):=h
def adK(h:P:=by simp [Value.cells,Value.oneCell']):=h
def adN(h:P:=by rw[SX,<-SP];exact Ig):=h
def akN(h:P:=by intro h;unfold nG;rw[aY (by rw[<-hYl];intro e;rw[eR,e] at h;cases h),hYl,CF]):=h
def als(h:P:=by unfold fU;rw[hU.out];simp only;rw[a' hnE.out,hrr.out,aY hr,hdm.out,hRC.dg];(try rfl)):=h
def adL(h:P:=by rw[<-hdj];exact zK.range j hjd):=h
def Z6(h:P:=by rw[OD];exact h40):=h
def aha(h:P:=by rw[sf,rK hl,b8 s j cY hl,show j+1 - j=1 by omega];rfl):=h
def ahd(h:P:=by refine AV h hg ?_;cases hv:v.ownBlock with|none =>exact .inl I|some k =>grind):=h
def ahL(h:P:=by match j,hj with|0,_ =>simp [cy]|1,_ =>simp [cy]|2,_ =>simp [cy]|3,_ =>simp [cy]):=h
def aam(h:P:=by rw[show(⟨#[48]⟩:F).size=1 from I];omega):=h
def ahK(h:P:=by rw[eR];(cases h:t.data.toList with|nil =>rw[an,h] at h0;grind|cons a r =>rfl)):=h
def Rz(h:P:=by rw[hv.out];exact KF _ _ _):=h
def Ag(h:P:=by simpa using dZ):=h
def DJ(h:P:=by simp [bg];omega):=h
def Fm(h:P:=by rw[hr.out];try rfl):=h
def Cj(h:P:=by rw[hr.out];simp):=h
def PJ(h:P:=by rw[List.length_dropLast];omega):=h
def Wh(h:P:=by rw[iG,ou];omega):=h
def akJ(h:P:=by (cases hl:s.data.toList with|nil =>rw[an,hl] at h0;exact absurd I h0|cons a l =>rfl)):=h
def ak0(h:P:=by rw[hv3.out];unfold mr;simp only;rw[akZ.out,aY<|by decide,hD.out.2.1,a' rfl]):=h
def ahV(h:P:=by unfold dp;rw[a' hn.out,<-hdH.out,a' agm.out,<-jl.dg,<-Se.out,hC.out]):=h
def wC(h:P:=by cases e;rfl):=h
def akW(h:P:=by rw[aiX];cases ab;(.exact(by decide:((⟨#[77,68,53]⟩:F)).size<=100000));exact zA):=h
def PF(h:P:=by rw[fX];exact h1):=h
def ag5(h:P:=by rw[yy.out,oe hl<|by rw[b8 s j cY hl];exact hb,iN];omega):=h
def akS(h:P:=by have:=VM (⟨#[97,108,103,111,114,105,116,104,109]⟩:F);rw[cf] at this;exact this):=h
def Ci(h:P:=by simp <;> omega):=h
def ahG(h:P:=by rw[eR,tT];cases hq:gq x with|nil =>exact absurd hq h0|cons a r =>rfl):=h
def LF(h:P:=by have:=hJ.size;omega):=h
def Qn(h:P:=by cases hj;exact gK _):=h
def akY(h:P:=by unfold cO;rw[hrl,h,aY (by intro e;cases e),aY<|by rw[h'];decide,hnm]):=h
def RX(h:P:=by unfold dE.bad;rw[hq];rfl):=h
def Yv(h:P:=by rw[an,fq]):=h
def uc(h:P:=by rw[e];rfl):=h
def ahC(h:P:=by have:=(gi.lt g hg).1;omega):=h
def P1(h:P:=by have:=(aef.lt _ e).1;omega):=h
def r4(h:P:=by simp_all):=h
def Ed(h:P:=by rw[hT,h5];decide):=h
def Sa(h:P:=by show w.heap.size≠q;omega):=h
def R_(h:P:=by show w.heap.size≠c;omega):=h
def WL(h:P:=by rw[e];exact dP h.bF (by decide)):=h
def E_(h:P:=by simpa using HA):=h
def ak1(h:P:=by intro e;cases e):=h
def Pt(h:P:=by have:=s[k].toNat_lt;omega):=h
def ahy(h:P:=by intro e;have:=fl 47 t;rw[e] at this;exact s_ 47 _ this.symm):=h
def akV(h:P:=by have:=VM (⟨#[100,111,109,97,105,110]⟩:F);rw[Q0] at this;exact this):=h
def ahT(h:P:=by unfold fU;rw[hU.out];simp only;rw[a' hnE.out,hrr.out,a' hr]):=h
def wQ(h:P:=by simp [hz]):=h
def A2(h:P:=by simp [aT]):=h
def I7(h:P:=by rw[ei];omega):=h
def acz(h:P:=by refine alZ ?_;intro this;exact this):=h
def ag7(h:P:=by rw[hq.out,hinv.out,lA.out,FP.out,MN _ _ CX.out hx];rfl):=h
def ag9(h:P:=by rw[hq.out,hinv.out,zb<|by rw[<-an];omega];rfl):=h
def agS(h:P:=by cases hq:P.info? uS with|none =>simp [hq] at Wi|some t =>exact ahZ):=h
def sn(h:P:=by trivial):=h
def D5(h:P:=by simpa using hb):=h
def aho(h:P:=by rw[hpv.out];exact de (oi _) (by rw[qS];omega)):=h
def aak(h:P:=by rw[hS0];exact J<|bD _):=h
def akU(h:P:=by have:=VM (⟨#[115,116,97,108,101]⟩:F);rw[rS] at this;exact this):=h
def DQ(h:P:=by first|rfl|simp):=h
def Q3(h:P:=by rw[hr.out] at h;cases h):=h
def RD(h:P:=by rw[Int.natCast_pow];rfl):=h
def Q8(h:P:=by have:=nz.out _ e;omega):=h
def ahB(h:P:=by first|exact trivial|rfl):=h
def Il(h:P:=by unfold dH;simp):=h
def ahJ(h:P:=by intro u eu;simp only[jM] at eu;obtain⟨c,_,rfl⟩:=eu;rfl):=h
def ahM(h:P:=by cases ws with|nil =>grind|cons a r =>simp [Af,cy]):=h
def ahY(h:P:=by have hs:=s6.size;(try simp only[b9] at hs ⊢);omega):=h
def ahO(h:P:=by unfold jb;rw[NM.out];first|rfl|simp [ByteArray.append_assoc]):=h
def ab6(h:P:=by unfold dE.val;rw[hV];simp [hq]):=h
def RV(h:P:=by rw[<-an];exact jI):=h
def P9(h:P:=by rw[<-an];exact hk):=h
def ag8(h:P:=by rw[hq.out,hinv.out,lA.out,ah6 _ _ ael.out CX.out hx];rfl):=h
def Z1(h:P:=by unfold cQ;rw[aY h,h']):=h
def Jj(h:P:=by rw[hT,h4];decide):=h
def ahw(h:P:=by unfold eL;simp only;rw[aY h];unfold nG at hv;rw[hv]):=h
def Qe(h:P:=by rw[kK];exact cY):=h
def PX(h:P:=by rw[hy'.out];exact CT):=h
def ahn(h:P:=by rw[VL.out];exact wi):=h
def akT(h:P:=by have:=VM (⟨#[113,111,112]⟩:F);rw[Mp] at this;exact this):=h
def X2(h:P:=by rw[zR];exact gK _):=h
def ag3(h:P:=by rw[iG,ou,fX];omega):=h
def ahW(h:P:=by rw[sf,MF,tT,hq];exact Aq 58 _):=h
def akX(h:P:=by unfold cO;rw[hrl,h,aY (by intro e;cases e),a' h']):=h
def ahu(h:P:=by rw[kB,a' I,a'<|by omega]):=h
def V3(h:P:=by rw[e_,fq]):=h
def ag0(h:P:=by rw[hrX.out];intro g hg;exact adX g (fY.1 hg).1):=h
def ZG(h:P:=by rw[hr.out];exact kj.num _ 4):=h
def Z3(h:P:=by rw[mv.out,Gz h0]):=h
def Sh(h:P:=by rw[hcx.out];exact h0):=h
def agZ(h:P:=by rw[gW cY,je];rfl):=h
def ag4(h:P:=by simpa using ze.set 0<|.slice (fJ g4) (xK.length+1) kQ):=h
def ahF(h:P:=by have:=Kp x;rw[an,tT];rw[<-an] at this;omega):=h
def ahi(h:P:=by have h:=ud;rw[p4] at h;simpa [aq] using h):=h
def ZP(h:P:=by unfold Hy at h;simpa using h):=h
def ag1(h:P:=by subst adY;exact λwx ho=>adW AF.og AF.WK AF.bd ho):=h
def ag2(h:P:=by simpa using ze.set 1<|.slice (fJ g4) (Ws.length+1) kQ):=h
def ahb(h:P:=by simp only[mV,vY,Array.getElem_toList];grind):=h
def Y5(h:P:=by simp [nm.arr,Value.oneCell']):=h
def RC(h:P:=by unfold fT;omega):=h
def agR(h:P:=by unfold cm;rw[rK h];simp [hc]):=h
def ag6(h:P:=by refine(Tp w p s k c h hs).mono λe w' hh=>?_;grind):=h
def ahS(h:P:=by have h1:=G_.size;simp only[b9] at h1;omega):=h
def agQ(h:P:=by rw[List.mem_take_iff_getElem];exact⟨j,by omega,I⟩):=h
def ahh(h:P:=by refine Ip ?_;intro u x _ hx;exact fr x u hx):=h
def ahe(h:P:=by have h2:=X7<|gp r.bA;rw[zR] at h2;omega):=h
def DY(h:P:=by exact ah0):=h
def QR(h:P:=by unfold iK;grind):=h
def aht(h:P:=by refine Ip ?_;intro u x _ hx;exact kV x u hx):=h
def ahq(h:P:=by unfold dH;rw[IM<|by omega];rfl):=h
def ahU(h:P:=by have h5:x.ps.length<=16:=h16;simp only[maxLen];omega):=h
def ahz(h:P:=by cases h:(ps[k].toList==[46,46]);rfl;exact absurd h d2):=h
def ahk(h:P:=by rw[<-an] at z3;simpa using Nat.le_of_eq z3.symm):=h
def WZ(h:P:=by have:=(hO.lt g e1).2;omega):=h
def VU(k:Q)(h:KK Q->P:=by intro kk;intro wf iL ki;refine rF hK (((fI _ lo).grown fv nJ).grown ki nJ) λai=>?_;refine dN ?_;have rO:=lo.size;have qz:=fv.size;have zv:=J<|ag (ag (ri.aD lo) fv O O) ki O O;have rQ:=iE.grown ki nJ;have zw:=J<|((rN.later lo).box jJ Z fv (.inr ⟨O,O⟩) O).box jR Z ki (.inr ⟨O,O⟩) O;clear ki;revert wf iL ai rO qz zv rQ zw;exact kk.o):=h ⟨k⟩
def kk1(k:Q)(h:KK Q->P:=by intro kk;have cf:=(((((aL w w).alloc mS<|.cells p.arr fo).alloc mS<|.cells o.arr kv).alloc mS<|.cells ru fo).alloc mS<|.cells dK bG);have hp:=((((A.new w p.arr fo).alloc<|.cells o.arr kv).alloc<|.cells ru fo).alloc<|.cells dK bG);have dz:=(((A.new (w.alloc<|.cells p.arr fo) o.arr kv).alloc<|.cells ru fo).alloc<|.cells dK bG);have ko:=((A.new ((w.alloc<|.cells p.arr fo).alloc<|.cells o.arr kv) ru fo).alloc<|.cells dK bG);have j5:=(A.new (((w.alloc<|.cells p.arr fo).alloc<|.cells o.arr kv).alloc<|.cells ru fo) dK bG);simp only[b9] at dz ko j5;revert cf hp dz ko j5;exact kk.o):=h ⟨k⟩
def kk2(k:Q)(h:KK Q->P:=by intro kk;have zv:=J<|ag (ag (ri.aD lo) fv O O) ki O O;have rQ:=iE.grown ki nJ;have zw:=J<|((rN.later lo).box jJ Z fv (.inr ⟨O,O⟩) O).box jR Z ki (.inr ⟨O,O⟩) O;revert zv rQ zw;exact kk.o):=h ⟨k⟩
def kk3(k:Q)(h:KK Q->P:=by intro kk;refine adt ?_;intro cf dz hz;simp only[b9] at hz;have y5:=h.low.size;have kA:=h.QE;go_enter func7,ntmps7;go_upto_region 1 with(fail);generalize((w.alloc<|.cells o.arr kv).alloc<|.cells dK bG)=w5 at cf dz hz ⊢;have h5:=J<|h.later cf;rename_i yo CA Mj VD;revert y5 kA yo CA Mj VD w5 cf dz hz h5;exact kk.o):=h ⟨k⟩
def kk4(k:Q)(h:KK Q->P:=by intro kk;refine adt ?_;intro cf dz hz;simp only[b9] at hz;revert cf dz hz;exact kk.o):=h ⟨k⟩
def kk5(h:P:=by refine rF hK (cF _<|ak.au tN) λai=>?_;refine rD 8 λK hK=>?_;have amF:Y w3 (w3.alloc<|.cells g'.arr aM):=(aL _ _).alloc lJ _;refine dj nS underlying25 aJ Z aG aJ _ _ aJ _ 0 (.slice a1 Gs.length ew) Gs aJ (aq.later hX2.og tN) g' (fB _) _ aJ _ (A.new w3 g'.arr aM) aJ nQ IJ (bt _) ?_;intro g4 kQ w4 CT PW agK;have Mk:=(ak.au tN).trans (ak.aH PW λi hi=>hi);have hoa:ak (λi=>(Value.slice a1 Gs.length ew).ownBlock=some i) (w3.alloc<|.cells g'.arr aM) w4:=ak.aH PW λi hi=>hi;have Fv:ak (sd (.slice a1 Gs.length ew) b) w2 w4:=Mk.mono λi hi=>.inl hi;have hb4:=Mk.bF hX2.bF<|hX2.og.apart Z hX2.bF;have c4:=hb4.cell 0 I;have f4:=hb4.free 0;refine rF hK (cF _ Fv) λai=>?_;refine wK ?_;refine rD 11 λK hK=>?_;go_simp;refine rF hK (cF _ (Fv.set (p:=(U b 0)) (.inl<|.inr I)<|.slice (fJ g4) (Gs.length+1) kQ)) λai=>?_;refine dN ?_;clear pF jf PW Fv f4;go_wp2;go_meet;exact⟨_,Gs++[g'],(by rw[iG];have e1:[g'].length=1:=I;omega),J (hX2.o_ Mk CT (qJ (v:=.slice a1 Gs.length ew) (eA:=.slice a1 Gs.length ew) (n4:=Gs.length+1) (c4:=kQ) tN.size I agK) (ail hX2 Mk hoa amF ht1 ht2 (λy hy=>⟨de IK (AH y hy).1,(AH y hy).2⟩) (λy hy=>⟨de IK (zM y hy).1,(zM y hy).2⟩)<|aq.later hX2.og tN) (by simpa using hb4.set 0<|.slice (fJ g4) (Gs.length+1) kQ) (aI (bW w4<|some b) (.inl I)<|.slice (fJ g4) (Gs.length+1) kQ)),J<|by rw[je,ue,Hq]⟩):=h
def Vi(h:P:=by exact pg 6 fo 7 bG (w.heap.size+1+1) (w.heap.size+1+1+1) results12 I I (bH rQ underlying33 I ff)<|bH iL jw I aR):=h
def kk7(k:Q)(h:KK Q->P:=by intro kk;refine akt ?_;intro _ _ _ _ _ w5 cf hp dz ko j5;have mM:=Ck o w5 (hO.later cf) (de hh1 Z)<|de hh2 Z;rw[hr] at mM;rename_i yo CA Mj VD zz4;revert yo CA Mj VD zz4 w5 cf hp dz ko j5 mM;exact kk.o):=h ⟨k⟩
def kk8(k:Q)(h:KK Q->P:=by intro kk;refine akt ?_;intro _ _ _ _ _ w5 cf hp dz ko j5;have mM:=Ck o w5 (hO.later cf) (de hh1 Z)<|de hh2 Z;rename_i yo CA Mj VD zz4;revert yo CA Mj VD zz4 w5 cf hp dz ko j5 mM;exact kk.o):=h ⟨k⟩
def kk9(h:P:=by refine rF hK (cF _<|ak.au tN) λai=>?_;refine rD 15 λK hK=>?_;refine eb jV underlying29 aJ Z aE aJ _ _ aJ w2 B (.slice a1 gy.length ew) (gy.map (nf ⟨part,⟨ka,h1,p1⟩,⟨kU,h2,p2⟩,ah,fz,method,ad,cp,bA,bB,body⟩<|V+g)) aJ (aq.later CB jf) (nf ⟨part,⟨ka,h1,p1⟩,⟨kU,h2,p2⟩,ah,fz,method,ad,cp,bA,bB,body⟩ (V+g) (m,h)) (fr _) _ aJ _ aJ aJ nQ u9 (de Bq jf.size) ?_;intro v4 w4 CT PW;obtain⟨a4,kQ,rfl,hs4⟩:=aq.shape aE CT;clear hs4;obtain⟨hP4,hQ4,hM4⟩:=aeT jf zU hQ1 akL CB PW;have c4:=hP4.cell 0 I;have f4:=hP4.free 0;have aku:ak (C8 P B) w1 w4:=ak.append (ak.au jf) PW (λi hi=>.inl (.inr<|amu i hi));refine rF hK (cF _ aku) λai=>?_;refine rD 16 λK hK=>?_;go_simp;have adu:=aeU hGH h01 aku hP4 hQ4 hM4 (Nat.succ_le_succ hk) akK CT l0 JH.out;have kR:(List.map (nf ⟨part,⟨ka,h1,p1⟩,⟨kU,h2,p2⟩,ah,fz,method,ad,cp,bA,bB,body⟩<|V+g) gy++[(nf ⟨part,⟨ka,h1,p1⟩,⟨kU,h2,p2⟩,ah,fz,method,ad,cp,bA,bB,body⟩ (V+g) (m,h))]).length=gy.length+1:=bT;rw[kR] at adu;refine rF hK (cF _ (aku.set (p:=(U P 0)) (.inl<|.inl I)<|.slice a4 (gy.length+1) kQ)) λai=>?_;refine dN ?_;go_wp2;go_end0;exact⟨I,adu⟩):=h
def Ov(h:P:=by (repeat (first|(go_big_may;refine aa I eW _ _ I _ I hR j' I I df (gm _ _ _ _ _ _ _ _ _ _) ?_;intro wz hz hg)|go_values|go_skip|go_guarded|go_step|go_upon));obtain⟨d0,d1,d2,d3,d4,d5,d6,d7⟩:=br hz;refine bL (v:=.tuple #[.agg j',false]) (by simp [results,results152,go_sem,d0,d1,d2,d3,d4,d5,d6,d7];try rfl) rfl ?_;exact fh.no hv I (ag x5 hg x5.size<|pV _)):=h
def ajp(h:P:=by go_upto_region 10 with(fail);have hD:fU D o=({D with gs:=eX g.ar g.ax g.ask.d.al gsU},bC 2):=(by unfold fU;rw[hU.out];simp only;rw[a' hnU.out,<-Hq.out,hrr.out,aY hr0.out];(try rfl));have dR:Y wy wy.drew:=(aL _ _).drew;have cF:∀w',ak Sb' wy w'->A w' q g.arr aM/\w'.cell? (U q 3)=some (.bool g.ax)/\w'.cell? (U q 7)=some (.string g.ask.d.al)/\w'.cell? (U b aj)=vb B.bb:=λw' ho=>have hb:=ho.bF hqy (λe=>hqn.out.1<|.inl e);⟨hb,hb.cell 3 rfl,hb.cell 7 rfl,(ho.bF UZ.bF (λe=>UZ.nb<|.inl e)).cell aj UZ.c0⟩;refine rG (λw'=>A w' q g.arr aM/\w'.cell? (U q 3)=some (.bool g.ax)/\w'.cell? (U q 7)=some (.string g.ask.d.al)/\w'.cell? (U b aj)=vb B.bb) (cF _<|ak.au dR) λai=>?_;refine tK 0 ?_;refine NS ?_;refine tK 4 ?_;refine tL 5 (aw g.ar) q 0 (mP g.ar) (λw h=>ad7 h.1) underlying39 aB ?_;refine wS ?_;refine wK ?_;refine rD 11 λK hK=>?_;go_simp;apply(xI B.bb Sb' gsU D.ws g.ar g.ax g.ask.d.al wy.drew (UZ.l5.later dR) O).Q;rintro e Fp ⟨rfl,yi,agL⟩;refine rF hK (cF _<|(ak.au dR).trans agL.only) λai=>?_;refine dN ?_;have akv:=J<|(UZ.later dR).lj yi agL;have ama:=J ((O3.trans UZ.out<|cN.below dR).trans (UZ.later dR) akv.out.2);have amb:=((ak.au dR).trans agL.only).bF hzy (λe=>af2<|.inl e);have Mr:¬({{B with Sb:=Sb'} with Sb:=grow Sb' wy.drew Fp}:ey).S (w.heap.size+1):=λe=>(by rcases akv.out.2.jv _ e with e2|e2;(.exact af2 e2);have e3:wy.heap.size<=w.heap.size+1:=e2;have:=hzy.lt;omega);clear cF yi agL dR;go_wp2_with (refine aa I bG _ _ I _ I amb (bC 2).arr I I aR (bQ _) ?_;intro w30 sW o0);refine bL (v:=.agg (bC 2).arr) ?_ I ?_;(.exact RO);rw[<-hR.out,hD];exact⟨I,_,_,eH akv.out.1 ama.out (ak.aH o0 λi e=>(cR e).symm) (pV _) Mr O amb Z⟩):=h
def VE(k:Q)(h:KK Q->P:=by intro kk;intro wb iE fv;refine rF hK ((fI _ lo).grown fv nJ) λai=>?_;refine rD 4 λK hK=>?_;have jR:=(gl.later lo).grown fv nJ;revert wb iE fv ai K hK jR;exact kk.o):=h ⟨k⟩
def ajG(k:Q)(h:KK Q->P:=by intro kk;intro wf iL ki;refine rF hK (((fI _ lo).grown fv nJ).grown ki nJ) λai=>?_;refine dN ?_;have rO:=lo.size;have qz:=fv.size;revert wf iL ki ai rO qz;exact kk.o):=h ⟨k⟩
def aio(h:P:=by refine rD 10 λK hK=>?_;refine p8 nS underlying25 aJ Z aG aJ _ _ aJ _ w7 v8 (Gs.take k) aJ hO8 (Gs.drop<|k+1) (λy _=>fB y) pb oA _ _ MY (by rw[fX]) (amt _ pG) amr ams pG.size ?_;intro v9 w9 IW wi;rw[<-hL.out] at IW;obtain⟨a8,c8,rfl,_⟩:=aq.shape aG IW;have pF:=pG.grown wi pG.size λk hk=>(hO8.lt k hk).1;refine rF hK (ak.au pF) λai=>?_;refine tK 11 ?_;refine rD 12 λK hK=>?_;have qE:=aim.later pF;have c9:=qE.cell 0 I;have f9:=qE.free 0;go_simp;have akw:=(ak.au (S:=λi=>i=w.heap.size) pF).set (p:=(U w 0)) (.inl I)<|.slice a8 L.length c8;have CW:=J (IW.past (aI (p:=(U w 0)) (bW w9<|some w.heap.size) (.inl I)<|.slice a8 L.length c8) O);have oZ:=J (by simpa using qE.set 0<|.slice a8 L.length c8);refine rF hK (akw) λai=>?_;refine dN ?_;have amN:=J akw;clear c9 f9 qE pF wi IW akw;exact yL):=h
def ajY(k:Q)(h:KK Q->P:=by intro kk;refine tK 10 ?_;refine rD 11 λK hK=>?_;have Pj:=CH.later oZ;have agu:3<p.arr.size:=x0;refine DD I _ _ _ aJ w.heap.size 3 aJ Pj agu (.slice a6 C2.length c6) aJ aJ aJ BA ?_;intro Fp Vm Cv;have Nu:=e8.lt;refine rF hK (⟨(cF _ oZ).1.grown Cv nJ,(((e8.later oZ).grown Cv nJ)).cell 19 I⟩) λai=>?_;refine dN ?_;have ajZ:=oZ.size;obtain⟨q,hq⟩:∃q:oV,Hid<|q={p with ca:=a6,cc:=c6,Cs:=C2}:=⟨_,J I⟩;have zu:Hid<|A Fp w q.arr fo:=J (by rw[hq.out];have h3:=Vm;rw[JY] at h3;exact h3);have rN:=J (((jl.later oZ).EA a6 c6 C2 hr6<|gD.own (w0:=w7) CW Dw).box Pj Z Cv (.inr ⟨O,O⟩) O);rw[<-hq.out] at rN;have ri:=J<|ag (hJ.aD oZ) Cv LF lJ;have Mt:=rj.lt;have kh:=J<|(s3.later oZ).grown Cv nJ;have gl:=J<|(rj.later oZ).grown Cv nJ;revert Pj agu Fp Vm Cv Nu ai ajZ q hq zu rN ri Mt kh gl;exact kk.o):=h ⟨k⟩
def vp(k:Q)(h:KK Q->P:=by intro kk;have lo:=oR.aD mc;refine rF hK (fI _ lo) λai=>?_;refine rD 3 λK hK=>?_;have jJ:=kh.later lo;revert lo ai K hK jJ;exact kk.o):=h ⟨k⟩
def U1(h:P:=by have hTw:=(eI.below hJ).trans h7 hT.2;have Mr:¬WS (vy Bs i B8) b (w.heap.size+1):=λe=>(by rcases hT.2.jv _ e with e2|e2;(.have:=sY.out _ e2;omega);omega);rw[<-hpt] at hT hTw Mr;exact abT):=h
def aiR(h:P:=by have hD:nE D o={D with gs:=g_ o.X.dest D.gs,ws:=gb o.X.dest D.ws}:=(by unfold nE;grind);clear h9 hA;go_upto_region 5 with(fail);refine Zf ?_;intro ai;refine tK 0 ?_;refine NS ?_;refine QB ?_;intro K hK;rintro e w7 ⟨rfl,QC,hT7⟩;refine Zg ?_;intro By ai VO hq7;have hP7:=J By.1;have aiQ:=J ((aiP.trans h6.out<|cN.below dR).trans (h6.later dR) By.2);have hg7:=J By.2.jv;have hs7:=VO.size;clear Ze N_ QC hT7 By dR;have k7:=cV o.bE<|(VO.bF afb.out λe=>pL).cell 0 rfl;have amc:=VO.bF hz6 λe=>pL;clear VO;have amG:¬({B with Sb:=grow B.Sb w6.drew w7}:ey).S (w.heap.size+1):=λe=>(by rcases hg7.out _ e with e3|e3;(.have:=nz.out _ e3;omega);have e4:w6.heap.size<=w.heap.size+1:=e3;omega);go_wp2_with (refine aa I bG _ _ I _ I amc (bC 1).arr I I aR (bQ _) ?_;intro w20 N' Dc);refine bL (v:=.agg (bC 1).arr) ?_ I ?_;(.exact QA);rw[<-hR.out,hD];exact⟨I,_,_,eH hP7.out aiQ.out (ak.aH Dc λi e=>(cR e).symm) (pV _) amG O amc Z⟩):=h
def agM(h:P:=by refine rD 23 λK hK=>?_;go_simp;apply(ht _).Q;rintro e w2 ⟨rfl,dZ⟩;refine LL ?_;intro jf ai;refine tK 25 ?_;refine tK 26 ?_;exact adv):=h
def afS(h:P:=by refine GU (B:=wr.heap.size) (w:=wr) ?_ ?_;(.exact(((((aL _ _).alloc lJ _).alloc bT _).alloc fK _).alloc fK _).alloc fK _);intro W' hW';have amO:=amz.out W' hW';have amH:=J<|hBx.aD hW';go_quiet ((go_at_call 304;exact dW (ali.out _<|aN (Bq.then (by have:=Bq.size;omega) hW') _)));go_wp2_with fail;((with_reducible apply(alh _).Q));rintro e w2 ⟨rfl,rfl⟩;go_wp2;refine bM ?_;exact⟨j+1,⟨xd,(xb+Y)%4294967296,xb,xc⟩,O,cJ,I,cJ,I,I,hx',J<|aN amH.out _⟩):=h
def Pa(k:Q)(h:KK Q->P:=by intro kk;refine rG (λw'=>A w' w q.arr fo) (fI _ oR) λai=>?_;refine tL 0 q.arr w 0 q.arr.toList (λw h=>h.range) underlying33 ff ?_;refine tK 1 ?_;refine rD 2 λK hK=>?_;go_simp;revert ai K hK;exact kk.o):=h ⟨k⟩
def aiK(h:P:=by intro g4 kQ w4 CT PW agK;have Mk:=ae3.trans (ak.aH PW λi hi=>by rw[<-hb2];exact hi);have Fv:ak (OnV (.slice a1 l.length ew) b) wz w4:=Mk.mono λi hi=>.inl hi;have hb4:=Mk.bF hv<|hO.apart Z hv;have c4:=hb4.cell 0 I;have f4:=hb4.free 0;refine rF hK (cF _ Fv) λai=>?_;refine tK 10 ?_;refine tK 11 ?_;refine rD 12 λK hK=>?_;go_simp;have adu:=J (Hv.eC hv hO Mk (by rw[iH.out] at CT;exact CT) (qJ (v:=.slice a1 l.length ew) (n4:=(l.filter λq=>!jg x q).length+1) (c4:=kQ) ae3.size hb2 agK));refine rF hK (cF _ (Fv.set (p:=(U b 0)) (.inl<|.inr I) (.slice (fJ g4) ((l.filter λq=>!jg x q).length+1) kQ))) λai=>?_;refine dN ?_;go_wp2;refine bM ?_;exact⟨k+1,O,cJ,by rw[gw.out];exact adu⟩):=h
def akx(h:P:=by refine tK 26 ?_;exact adv):=h
def aj8(h:P:=by have amI:k<q.Cs.length:=O;obtain⟨b1,o1,rfl,hc⟩:=(hrE.later hBi) k cY;obtain⟨b2,o2,jR,hd⟩:=(hcE.later hBi) k amI;have ik:q.Cs[k]=D.cs[k]:=(by congr 1);rw[ik] at hd;generalize D.cs[k]=x at hc hd;obtain⟨⟨ka,g1,p1⟩,num⟩:=x;have cx:=cV (.slice q.ca q.Cs.length q.cc)<|(hbE.later hBi).cell 3 I;rw[jR] at cx;have d0:=hc 0 _ I;have d1:=hc 1 _ I;have d2:=hc 2 _ I;have d3:=hc 3 _ I;have f0:=hd 0 _ I;have f1:=hd 1 _ I;have f2:=hd 2 _ I;have f3:=hd 3 _ I;simp only[Ad] at d0 d1 d2 d3 f0 f1 f2 f3;have hk0:(0:Int)<=(k:Int):=O;have hk2:(k:Int)<(q.Cs.length:Int):=O;have h8:=hlH.out.2.2.2;clear hc hd ik;go_wp2_with fail;go_quiet (fail);go_wp2;refine bM ?_;exact⟨k+1,O,cJ,J<|aN hBi.out _⟩):=h
def agy(k:Q)(h:KK Q->P:=by intro kk;have dR:Y wy wy.drew:=(aL _ _).drew;have cF:∀w',Y wy w'->A w' X q.arr fo/\w'.cell? (U X 2)=some (.slice q.ba q.Bk.length q.bc)/\w'.cell? (U X 3)=some (.slice q.ca q.Cs.length q.cc):=λw' hb=>⟨hby.later hb,(hby.later hb).cell 2 I,(hby.later hb).cell 3 I⟩;refine rG (λw'=>A w' X q.arr fo/\w'.cell? (U X 2)=some (.slice q.ba q.Bk.length q.bc)/\w'.cell? (U X 3)=some (.slice q.ca q.Cs.length q.cc)) (cF _ dR) λai=>?_;refine tK 0 ?_;refine tK 1 ?_;refine tK 3 ?_;refine tK 4 ?_;refine tK 6 ?_;refine tL 7 _ X 0 [.slice q.ga q.Gs.length q.gc,.slice q.wa q.Ws.length q.wc] (λw h=>lM h.1) dT agw ?_;refine rD 2 λK hK=>?_;go_simp;apply(hG1 _<|CG.aD dR).Q;revert dR cF ai K hK;exact kk.o):=h ⟨k⟩
def aiO(h:P:=by refine rF hK (cF _<|ak.au nT) λai=>?_;refine rD 13 λK hK=>?_;refine dj ae8 underlying58 aJ Z bw aJ _ _ aJ _ 0 (.slice a1 D6.cs.length ew) D6.cs aJ (aq.later h6.cert nT) (⟨o.X.dest,o.cert⟩:nm) (kV _) _ aJ _ (A.new w6.drew (⟨o.X.dest,o.cert⟩:nm).arr zl) aJ nQ IJ (bt _) ?_;intro g7 Y_ w7 hO7 hG7 amd;have agN:=(ak.au nT).trans (ak.aH hG7 λi hi=>hi);have adw:ak (sd (.slice a1 D6.cs.length ew) b) w6 w7:=agN.mono λi hi=>.inl hi;have rT:=agN.bF h6.bF<|h6.cert.apart Z h6.bF;have c7:=rT.cell (aj+2) h6.c2;have f7:=rT.free<|aj+2;refine rF hK (cF _ adw) λai=>?_;refine tK 14 ?_;refine tK 15 ?_;refine rD 16 λK hK=>?_;go_simp;have adu:=J (h6.EA agN hO7 (qJ (v:=(.slice a1 D6.cs.length ew)) (eA:=(.slice a1 D6.cs.length ew)) (n4:=D6.cs.length+1) (c4:=Y_) nT.size I amd) (rT.set (aj+2)<|.slice (fJ g7) (D6.cs.length+1) Y_) (aI (p:=⟨b,aj+2,none⟩) (bW w7<|some b) (.inl I)<|.slice (fJ g7) (D6.cs.length+1) Y_));have aky:=adw.set (p:=⟨b,aj+2,none⟩) (.inl<|.inr I)<|.slice (fJ g7) (D6.cs.length+1) Y_;have amQ:=J<|cF _ aky;refine rF hK (cF _ aky) λai=>?_;refine dN ?_;clear nT hO7 hG7 amd agN adw rT c7 f7 aky;exact yL):=h
def Nz(h:P:=by go_enter func39,ntmps39;go_wp2_with fail;apply(hr _).Q;rintro e w1 ⟨rfl,pB⟩;go_wp2_with fail;apply(hr _).Q;rintro e w2 ⟨rfl,dZ⟩;have jf:=pB.aD dZ;go_wp2_with fail;apply(u _).Q;rintro e w3 ⟨rfl,tN⟩;go_wp2;go_ret;exact⟨I,jf.aD tN⟩):=h
def tM(k:Q)(h:KK Q->P:=by intro kk;refine tK 0 ?_;refine NS ?_;exact kk.o):=h ⟨k⟩
def ame(h:P:=by have k7:=cV (.string gx.ask.d.al)<|hgC.cell 7 I;have ajE:0+2<=q.arr.size:=x0;clear hr;go_upto_region 15 with(first|(refine cD I bx _ I w 0 I [.slice q.ga q.Gs.length q.gc,.slice q.wa q.Ws.length q.wc] _ zO dT I bJ ?_)|(refine cD I 39 _ I qg 0 I (mP gx.ar) _ hro underlying39 I aB ?_)|(go_at_call 41;apply hdr.Q;rintro e w15 ⟨⟨v,rfl,hO⟩,Ml⟩;obtain⟨a6,c6,rfl,hr6,hc6,_⟩:=aq.shape aG hO;have adx:=hpC.later Ml)|(refine ep I bx _ _ I w 0 I adx #[.slice a6 N.length c6,.slice q.wa q.Ws.length q.wc] ajE I nx bJ _ (ym q a6 c6 N) ?_;intro w16 amf ady));have amR:=Ml.size;obtain⟨nr,jR⟩:∃nr:oV,Hid<|nr={q with ga:=a6,gc:=c6,Gs:=N}:=⟨_,J I⟩;have zu:Hid<|A w16 w nr.arr fo:=J (by rw[jR.out];exact amf);have DC:=((hRC.later Ml).o_ a6 c6 N hr6 hc6 (gD.own hO λi e=>by have:=Dw i e;omega) (λx hx=>(hRC.tg x<|Fh.out x hx).later Ml)).box adx Z ady (.inr ⟨O,O⟩) O;rw[<-jR.out] at DC;have rN:=J DC;have ri:=J<|ag (hBC.aD Ml) ady (by have:=hBC.size;omega) lJ;have kh:=J<|(U_.later Ml).grown ady nJ;have gl:=J<|(O_.later Ml).grown ady nJ;clear hdr zO hro k3 k7 hO hr6 amf ady adx Ml DC;have oR:Y w16 w16.drew:=(aL _ _).drew;have Mt:=gl.lt;have fI:∀w',Y w16 w'->A w' w nr.arr fo:=λw' hb=>zu.later hb;refine rG (λw'=>A w' w nr.arr fo) (fI _ oR) λai=>?_;refine tL 0 nr.arr w 0 nr.arr.toList (λw h=>h.range) underlying33 ff ?_;refine tK 1 ?_;refine rD 2 λK hK=>?_;go_simp;apply(iX 2 _).Q;rintro e wa ⟨rfl,mc⟩;refine vp ?_;intro lo ai K hK jJ;refine bj I fo _ _ I _ I jJ nr.arr I I ff (kM nr) ?_;refine VE ?_;intro wb iE fv ai K hK jR;refine R2 ?_;refine ajG ?_;intro wf iL ki ai rO qz;have ajF:=ri.size;refine kk2 ?_;intro zv rQ zw;clear oR fI lo jJ iE fv jR ki;go_wp2;refine bL (v:=.tuple #[.agg nr.arr,.agg (bC 2).arr]) ?_ I ?_;(.exact Vi);exact⟨nr,I,zw.qV,zv.out⟩):=h
def G'(k:Q)(h:KK Q->P:=by intro kk;refine kk1 ?_;intro cf hp dz ko j5;have hSH:=J hS;go_enter func12,ntmps12;go_upto_region 1 with(fail);generalize((((w.alloc<|.cells p.arr fo).alloc<|.cells o.arr kv).alloc<|.cells ru fo).alloc<|.cells dK bG)=w5 at cf hp dz ko j5 ⊢;have u9:=j5.lt;have rf:=x8 dz;have Aa:=hW;have rh:=A.new w5 ph cq;rename_i yo CA;revert hSH yo CA w5 cf hp dz ko j5 u9 rf Aa rh;exact kk.o):=h ⟨k⟩
def aj0(h:P:=by have hD:bz o V D=({D with cs:=C2},bC 1):=(by rw[hD0.out,<-hC2.out,<-UW.out,<-hC0.out,jl.dc];rfl);go_upto_region 69 with(fail);have oR:Y Fp Fp.drew:=(aL _ _).drew;have Mt:=gl.lt;have fI:∀w',Y Fp w'->A w' w q.arr fo:=λw' hb=>zu.later hb;refine Pa ?_;intro ai K hK;apply(iX 1 _).Q;rintro e wa ⟨rfl,mc⟩;refine vp ?_;intro lo ai K hK jJ;refine SA ?_;refine Sj ?_;intro wb iE fv ai K hK jR;exact acV):=h
def ajX(h:P:=by refine adz ?_;intro ai K hK;go_simp;apply(iX 7 _).Q;rintro e wa ⟨rfl,mc⟩;refine vp ?_;intro lo ai K hK jJ;refine Si ?_;refine VE ?_;intro wb iE fv ai K hK jR;refine bj I bG _ _ I _ I jR (bC 7).arr I I aR (bQ _) ?_;refine VU ?_;intro wf iL ai rO qz zv rQ zw;clear oR fI lo jJ iE fv jR;go_wp2;refine bL (v:=.tuple #[.agg p.arr,.agg (bC 7).arr]) ?_ I ?_;(.exact Vi);exact LZ):=h
def agt(k:Q)(h:KK Q->P:=by intro kk;refine adz ?_;intro ai K hK;go_simp;revert ai K hK;exact kk.o):=h ⟨k⟩
def U3(k:Q)(h:KK Q->P:=by intro kk;have e1:(o.bE==1)=false:=iD;have e2:(o.bE==2)=false:=iD;have e3:(o.bE==3)=false:=iD;have e4:(o.bE==4)=false:=iD;have e5:(o.bE==5)=false:=iD;revert e1 e2 e3 e4 e5;exact kk.o):=h ⟨k⟩
def ajs(k:Q)(h:KK Q->P:=by intro kk;have e1:(o.bE==1)=false:=iD;have e2:(o.bE==2)=false:=iD;have e3:(o.bE==3)=false:=iD;have e4:(o.bE==4)=false:=iD;revert e1 e2 e3 e4;exact kk.o):=h ⟨k⟩
def agO(k:Q)(h:KK Q->P:=by intro kk;refine rD 12 λK hK=>?_;refine bj I bG _ _ I _ I VF r5.arr I I aR (bQ _) ?_;intro wf iL ki;have qE:=ag Ab ki Ab.size O;refine rF hK (cF _ qE) λai=>?_;refine dN ?_;have hR9:=J<|hR3.later qE;revert wf iL ki qE ai hR9;exact kk.o):=h ⟨k⟩
def agp(k:Q)(h:KK Q->P:=by intro kk;refine SA ?_;refine Sj ?_;intro wb iE fv ai K hK jR;revert wb iE fv ai K hK jR;exact kk.o):=h ⟨k⟩
def Ui(k:Q)(h:KK Q->P:=by intro kk;have Oq:=(dZ.cell (p:=(U w 0)) Mm).trans q0;have Ot:=(dZ.cell (p:=(U w 1)) Mm).trans q3;have f0':=(dZ.frozen (p:=(U w 0)) Mm).trans f0;have f1':=(dZ.frozen (p:=(U w 1)) Mm).trans f1;revert Oq Ot f0' f1';exact kk.o):=h ⟨k⟩
def agP(k:Q)(h:KK Q->P:=by intro kk;refine rD 16 λK hK=>?_;refine bj I bG _ _ I _ I VF R.arr I I aR (bQ _) ?_;intro wf iL ki;have qE:=J<|ag Ab ki Ab.size O;refine rF hK (cF _ qE) λai=>?_;refine dN ?_;revert wf iL ki qE ai;exact kk.o):=h ⟨k⟩
def ajb(k:Q)(h:KK Q->P:=by intro kk;obtain⟨c,hc⟩:∃c,c=grownCap w s.size 0 5:=⟨_,I⟩;have F':=V2 (P:=prog) w 9 172 5 s underlying9 underlying172 underlying5;rw[<-hc] at F';have B7:=lX.made w w c s lJ (by rw[hc];exact grownCap_ge _ _ _ _) (by rw[hc];exact Rr _ _ _ _ l3);obtain⟨R,hR⟩:∃R,R=Obj.cells (bytesRow s c) 5 ((bytesRow s c).size,(bytesRow s c).size+1):=⟨_,I⟩;rw[<-hR] at F' B7;have hO0:lX ((w.alloc R).alloc<|.cells #[.int .u8 128] 5).drew w (.slice (fJ w) s.size c) s.data.toList:=B7.alloc<|.cells #[.int .u8 128] 5;have hN0:∀j u,(([128]:bs).map bv)[j]?=some u->((w.alloc R).alloc<|.cells #[.int .u8 128] 5).drew.cell? ((⟨w.heap.size+1,0,none⟩:Addr).add j)=some u:=(by have h1:=Fw (w.alloc R) (.int .u8 128) 5;rw[b9] at h1;exact h1);have ua:Y w ((w.alloc R).alloc<|.cells #[.int .u8 128] 5).drew:=(((aL _ _).alloc lJ _).alloc bT _).drew;revert c hc R B7 F' hR hO0 hN0 ua;exact kk.o):=h ⟨k⟩
def agA(k:Q)(h:KK Q->P:=by intro kk;have hbe:=nz.aD hBe;refine rF hK (cF _ hbe) λai=>?_;refine Ll ?_;refine tK 22 ?_;refine tK 23 ?_;refine tK 24 ?_;refine tK 25 ?_;refine tK 26 ?_;refine dN ?_;have hBE:=J<|CG.aD hbe;have Vw:=J<|adh.aD hbe;have hbE:=J<|hby.later hbe;have hrE:=J<|hr7.later hbe;have hcE:=J (Mu.later hbe).rc;clear hbe;obtain⟨wo,hwo⟩:∃x,x=we:=⟨_,I⟩;revert ai hBE Vw hbE hrE hcE wo hwo;exact kk.o):=h ⟨k⟩
def ajI(h:P:=by have g0:=HB.qC.cell 0 I;have g1:=HB.qC.cell 1 I;have v0:=HB.qC.free 0;have eS:=HB.qC.free 1;(try dsimp only);(repeat (first|go_values|go_skip|go_guarded|go_step|go_upon));refine acr ?_;intro y0 y1;refine⟨I,A.kO (A.kO HB.cur _ _ R_) _ _ R_,⟨#[]⟩,pv6,ps6,rfl,rfl,hl6,A.kO (A.kO HB.box _ _ Sa) _ _ Sa,?_⟩;exact acs):=h
def zx(k:Q)(h:KK Q->P:=by intro kk;go_simp;refine rF hK (by (try dsimp only);assumption) λai=>?_;revert ai;exact kk.o):=h ⟨k⟩
def ajq(k:Q)(h:KK Q->P:=by intro kk;refine rG (λw'=>Y wx w'/\A w' q g.arr aM/\A w' qr o.X.arr cq/\w'.cell? (U qr 9)=some (.string o.X.method)/\w'.cell? (U qr 12)=some (.string o.X.body)/\w'.cell? (U w 18)=some (.string o.aA)/\w'.cell? (U q 14)=ev g.count) (Lk _ dR) λai=>?_;refine tK 0 ?_;refine tL 1 g.ask.arr q 6 g.ask.arr.toList (λw h=>P0 h.2.1) underlying96 df ?_;refine tK 2 ?_;refine tL 3 _ q 4 [.string g.user,.string g.pass] (λw h=>qy h.2.1) underlying46 kW ?_;refine ur ?_;refine tK 7 ?_;refine tL 8 _ qr 4 [.bool o.X.dest.sec,.string o.X.dest.host,mI o.X.dest.port,.string o.X.path,.string o.X.query] (λw h=>RN h.2.2.1) underlying41 Li ?_;refine uJ ?_;refine tK 13 ?_;refine tK 14 ?_;refine tK 15 ?_;refine rD 6 λK hK=>?_;go_simp;apply(sr o.X.method _<|by simp only[maxLen];omega).Q;revert ai K hK;exact kk.o):=h ⟨k⟩
def agr(h:P:=by have Oq:=q0;have Ot:=q3;have f0':=f0;have f1':=f1;clear q0 q3 f0 f1;go_wp2;obtain⟨c0,c1⟩:=eU (mI 3) (mI (k:Int)) Oq Ot;refine Sg ?_;refine⟨_,[],?_,aq.nil _ _,tQ,?_⟩;(.rw[hr.out]);have hb3:=Bq.out;go_grown):=h
def af0(h:P:=by cases ik:cg.toList.isEmpty;(.cases h1:(cg.toList==[97,117,116,104]);(.cases h2:(cg.toList==[97,117,116,104,45,105,110,116]);(.have hq:pr cg=false:=(by unfold pr;rw[ik,h1,h2];rfl);exact sV);have hq:pr cg=true:=(by unfold pr;rw[ik,h1,h2];rfl);exact sV);have hq:pr cg=true:=(by unfold pr;rw[ik,h1];rfl);exact sV);have hq:pr cg=true:=(by unfold pr;rw[ik];rfl);exact sV):=h
def aj9(h:P:=by have hp9:=zu.out;have jJ:=kh.out;go_wp2_with (first|(refine ae I jK _ I _ I hp9 _ underlying36 I jc ?_)|(refine aa I jK _ _ I _ I jJ (cG ps V) I I jc (s4 _ _) ?_;intro wb iE fv;have jR:=gl.grown fv nJ)|(refine aa I bG _ _ I _ I jR (bC 7).arr I I aR (bQ _) ?_;intro wf iL ki));have hsN:=ri.size;have hsb:=fv.size;refine bL (v:=.tuple #[.agg<|cG ps V,.agg (bC 7).arr]) ?_ I ?_;(.exact pg 4 jK 5 bG (w.heap.size+1+1) (w.heap.size+1+1+1) results6 I I (bH (iE.grown ki nJ) underlying36 I jc)<|bH iL jw I aR);exact⟨ps,I,(λi hi=>(((rN.out i hi).ve jJ Z fv O hW).ve jR Z ki O hW).close),ag (ag ri.out fv O O) ki O O⟩):=h
def amg(k:Q)(h:KK Q->P:=by intro kk;have Ph:aq kC 4 cI w8 w7 (.slice a5 C0.length c5) C0:=hO.base (λg hg=>by have h1:=(hO.lt g hg).1;have h2:=Aa.size;omega);refine rD 8 λK hK=>?_;refine dj Gf underlying31 aJ Z bw aJ _ _ aJ _ w7 (.slice a5 C0.length c5) C0 aJ Ph (⟨o.X.dest,o.cert⟩:nm) (kV _) _ aJ _ (VN.later pG) aJ nQ IJ Ab.size ?_;intro g9 xY w9 IW wi acW;rw[UW.out] at IW;have pF:Y w7 w9:=(ak.aH (S:=λi=>(Value.slice a5 C0.length c5).ownBlock=some i) wi λi e=>e).below Ab Ab.size λi e=>((Ph).lt i e).1;refine acX ?_;intro ai L1 rU K hK;revert Ph g9 xY w9 IW wi acW pF ai L1 rU K hK;exact kk.o):=h ⟨k⟩
def age(k:Q)(h:KK Q->P:=by intro kk;refine SA ?_;refine VE ?_;intro wb iE fv ai K hK jR;revert wb iE fv ai K hK jR;exact kk.o):=h ⟨k⟩
def amh(k:Q)(h:KK Q->P:=by intro kk;have hdc:=Mu.dc;have ami:=oX List.length Mu.dg;have amj:=oX List.length Mu.dw;rw[ct] at ami amj;have z1:=hF.lg;have z2:=hF.lw;have Vu:D.cs.length=q.Cs.length:=(by rw[hdc]);have RI:=J Mu.db;have hpc:=J hdc;have zG:D.gs.length<=100000:=O;have zW:D.ws.length<=100000:=O;have hlH:=J (show D.gs.length<=8/\D.ws.length<=8/\D.bk.length<=32/\D.cs.length<=8 from⟨z1,z2,hF.lb,hF.lc⟩);clear hdc ami amj z1 z2;revert Vu RI hpc zG zW hlH;exact kk.o):=h ⟨k⟩
def akt(k:Q)(h:KK Q->P:=by intro kk;have cf:=(((((aL w w).alloc mS<|.cells (cG ps V) jK).alloc mS<|.cells o.arr kv).alloc mS<|.cells t' jK).alloc mS<|.cells dK bG);have hp:=((((A.new w (cG ps V) jK).alloc<|.cells o.arr kv).alloc<|.cells t' jK).alloc<|.cells dK bG);have dz:=(((A.new (w.alloc<|.cells (cG ps V) jK) o.arr kv).alloc<|.cells t' jK).alloc<|.cells dK bG);have ko:=((A.new ((w.alloc<|.cells (cG ps V) jK).alloc<|.cells o.arr kv) t' jK).alloc<|.cells dK bG);have j5:=(A.new (((w.alloc<|.cells (cG ps V) jK).alloc<|.cells o.arr kv).alloc<|.cells t' jK) dK bG);simp only[b9] at dz ko j5;go_enter func6,ntmps6;go_upto_region 1 with(fail);generalize((((w.alloc<|.cells (cG ps V) jK).alloc<|.cells o.arr kv).alloc<|.cells t' jK).alloc<|.cells dK bG)=w5 at cf hp dz ko j5 ⊢;rename_i yo CA Mj VD zz4;revert yo CA Mj VD zz4 w5 cf hp dz ko j5;exact kk.o):=h ⟨k⟩
def acu(k:Q)(h:KK Q->P:=by intro kk;refine kk1 ?_;intro cf hp dz ko j5;go_enter func12,ntmps12;go_upto_region 1 with(fail);generalize((((w.alloc<|.cells p.arr fo).alloc<|.cells o.arr kv).alloc<|.cells ru fo).alloc<|.cells dK bG)=w5 at cf hp dz ko j5 ⊢;have u9:=j5.lt;have rf:=x8 dz;have rh:=A.new w5 ph cq;rename_i yo CA;revert yo CA w5 cf hp dz ko j5 u9 rf rh;exact kk.o):=h ⟨k⟩
def YB(k:Q)(h:KK Q->P:=by intro kk;have hil:=Lib.itoa_length_le bl h0 h1;have uN:(⟨(Lib.itoa bl).toArray⟩:F).size=(Lib.itoa bl).length:=(by rw[Hp]);generalize hT:(⟨(Lib.itoa bl).toArray⟩:F)=T at uN;have TQ:=J hT;have JB:=aeM bl h0 h1;rw[hT] at JB;clear hT;have hsT:T.size<=21:=O;clear uN hil;revert T TQ JB hsT;exact kk.o):=h ⟨k⟩
def acv(k:Q)(h:KK Q->P:=by intro kk;have Pd:=LQ o.text w7 O;unfold Co at Pd;obtain⟨n,hn⟩:∃n,Hid<|(da o.text).2.1=n:=⟨_,J I⟩;obtain⟨m,jI⟩:∃m,Hid<|(da o.text).2.2=m:=⟨_,J I⟩;rw[hn.out,jI.out] at Pd;have k15:=cV (.string o.text)<|e8.cell 15 I;revert n hn m Pd jI k15;exact kk.o):=h ⟨k⟩
def G4(h:P:=by exact cK 4 bG (w.heap.size+1) results7 I<|bH sW jw I aR):=h
def aj3(k:Q)(h:KK Q->P:=by intro kk;refine RY ?_;intro Ms hlw;have N_:=FM p.ga p.gc p.Gs p.wa p.wc p.Ws o.X.dest w7 jl.rg jl.rw Ms hlw;have Se:=J<|Nj o.X.dest p.Gs;have hwm:=J<|Nk o.X.dest p.Ws;have hgs:Hid<|∀g∈p.Gs.filter (λx=>!bI x.ar o.X.dest),g∈p.Gs:=J λg hg=>(fY.1 hg).1;have acZ:Hid (∀g∈(p.Ws.filter λx=>!eF o.X.dest false x.d).filter (λx=>!eF o.X.dest true x.d),g∈p.Ws):=J λg hg=>(fY.1 (fY.1 hg).1).1;generalize p.Gs.filter (λx=>!bI x.ar o.X.dest)=L at N_ Se hgs;generalize(p.Ws.filter λx=>!eF o.X.dest false x.d).filter (λx=>!eF o.X.dest true x.d)=M at N_ hwm acZ;revert Ms hlw L Se hgs M N_ hwm acZ;exact kk.o):=h ⟨k⟩
def aeW(k:Q)(h:KK Q->P:=by intro kk;have c1:=cV (.bool r.ar.sec)<|jJ.cell 1 I;have c2:=cV (.string r.ar.host)<|jJ.cell 2 I;have c3:=cV r.ar.port<|jJ.cell 3 I;have c4:=cV (.bool r.dest.sec)<|jJ.cell 4 I;have c5:=cV (.string r.dest.host)<|jJ.cell 5 I;have c6:=cV r.dest.port<|jJ.cell 6 I;have c7:=cV (.string r.path)<|jJ.cell 7 I;have c8:=cV (.string r.query)<|jJ.cell 8 I;revert c1 c2 c3 c4 c5 c6 c7 c8;exact kk.o):=h ⟨k⟩
def Dx(k:Q)(h:KK Q->P:=by intro kk;have Dy:w.heap.size+3<qr:=O;have Dz:qr<qo:=O;have k0:=cV o.bE<|e8.cell 0 I;revert Dy Dz k0;exact kk.o):=h ⟨k⟩
def xr(k:Q)(h:KK Q->P:=by intro kk;have k0:=cV o.bE<|e8.cell 0 I;revert k0;exact kk.o):=h ⟨k⟩
def abR(k:Q)(h:KK Q->P:=by intro kk;have e1:(o.bE==1)=false:=iD;have e2:(o.bE==2)=false:=iD;revert e1 e2;exact kk.o):=h ⟨k⟩
def aii(h:P:=by clear hn hys hns;go_wp2_with (first|(refine cD I aM _ I pb (po+k*16) I (bp x) _ CR dk I aV ?_)|(refine aa I aM _ _ I _ I hZ x.arr I I aV (dV x) ?_;intro wa aif vV;have mc:=J (ag (hB.alloc Mm<|.cells cC aM) vV fK Mm);have hqa:=(hq.alloc<|.cells cC aM).grown vV nJ;have aih:=Ht wa mc.out)|(refine ae I aM _ I _ I aif _ dk I aV ?_)|(refine ae I 39 _ I _ I hqa _ underlying39 I aB ?_)|(apply aih.Q;rintro e w2 ⟨rfl,dZ⟩;have jf:=J<|mc.aD dZ;have jR:=J<|hqa.later dZ));refine bM ?_;exact⟨k+1,m,j,O,cJ,I,I,hf,jf,jR⟩):=h
def agC(h:P:=by exact pg 4 jK 5 bG (w.heap.size+1+1) (w.heap.size+1+1+1) results6 I I (bH (iE.grown ki nJ) underlying36 I jc)<|bH iL jw I aR):=h
def Wt(k:Q)(h:KK Q->P:=by intro kk;have CB:ak (λi=>i=g0) w W1:=(by rw[Aw];exact(ak.au (S:=λi=>i=g0) (aL w w).drew).trans (gZ w.drew g0 _ cU));have p3:(ps.take i++ps.drop j).length=i+(ps.length - j):=ag3;revert CB p3;exact kk.o):=h ⟨k⟩
def acJ(k:Q)(h:KK Q->P:=by intro kk;refine Si ?_;refine VE ?_;intro wb iE fv ai K hK jR;revert wb iE fv ai K hK jR;exact kk.o):=h ⟨k⟩
def ajd(k:Q)(h:KK Q->P:=by intro kk;have hz:(55 - (s.size:Int)%64+64)%64=((fT s.size:Nat):Int):=RC;have hz':fT s.size<=63:=RC;have jI:(s.size:Int).tmod 64=(s.size:Int)%64:=(by rw[K3 O]);have aba:=Tryz.strings_Repeat ⟨#[0]⟩ (fT s.size) w O (by rw[show(⟨#[0]⟩:F).size=1 from I];omega);obtain⟨R,hR⟩:∃R:F,R=⟨(Lib.repeatL (⟨#[0]⟩:F).data.toList<|fT s.size).toArray⟩:=⟨_,I⟩;rw[<-hR] at aba;have hRl:R.data.toList=List.replicate (fT s.size) 0:=(by rw[hR];exact K5 _);have hRs:R.size<=63:=(by rw[an,hRl,Rh];omega);have hRh:=J hRl;clear hR hRl;go_enter func327,ntmps327;go_wp2_with fail;apply aba.Q;rename_i yo CA Mj VD zz4;revert hz hz' jI R aba hRs hRh yo CA Mj VD zz4;exact kk.o):=h ⟨k⟩
def ad8(k:Q)(h:KK Q->P:=by intro kk;go_wp2_with (first|((with_reducible show wpList _ _ _ ({dst:=_,op:=Op.binOp _ _ _ _ _,type:=_,pos:=_,after:=_,guard:=_}::_) _ _);refine bq _ I .eql 39 39 _ _ I #[ka,g1,p1] #[so,ho,po] aJ aJ b' _ (ik _) ?_)|(refine ae I 39 _ I _ I hq0 _ underlying39 I aB ?_));go_ret;exact kk.o):=h ⟨k⟩
def ain(k:Q)(h:KK Q->P:=by intro kk;refine p8 nS underlying25 aJ Z aG aJ _ _ aJ _ w7 (bN) [] aJ (aq.nil _ _) (Gs.take k) (λy _=>fB y) pb VJ _ _ MY HR (Nd (wh.later nz) k) FK CV nz.size ?_;intro v8 w8 hO8 hG8;rw[p4] at hO8;revert v8 w8 hO8 hG8;exact kk.o):=h ⟨k⟩
def ajK(k:Q)(h:KK Q->P:=by intro kk;have agm:=J hsc;have hgt:=Nc p.ga p.gc p.Gs p.wa p.Ws.length p.wc o.X.dest o.ax a.d.al w12 (jl.later kp).rg Ms;have Se:=J<|aeh o.X.dest o.ax a.d.al p.Gs;have LW:Hid<|∀x,p.Gs.find? (λx=>fO o.X.dest o.ax a.d.al x.d)=some x->x∈p.Gs:=J λx hx=>su hx;generalize p.Gs.find? (λx=>fO o.X.dest o.ax a.d.al x.d)=Gr at hgt Se LW;unfold D0 at hgt;obtain⟨g,hg⟩:∃g:cj,Hid<|Gr.getD nU=g:=⟨_,J I⟩;rw[hg.out] at hgt;have zO:=lM<|CH.later kp;have Mp:=lZ.later kp.out;have k14:=cV (.bool o.ax)<|(e8.later kp).cell 14 I;have ka1:=cV (.string a.d.al)<|LV.cell 1 I;revert agm Gr Se LW g hgt hg zO Mp k14 ka1;exact kk.o):=h ⟨k⟩
def aiL(h:P:=by refine rF hK (cF _<|ak.au Qw) λai=>?_;refine rD 6 λK hK=>?_;go_simp;apply(zk _ Qw).Q;rintro e w2 ⟨eA,rfl,pU,Qx,hb2⟩;have aiJ:ak (OnV (.slice a1 l.length ew) b) wz w2:=(ak.au Qw).trans (Qx.mono λi hi=>.inl hi);refine rF hK (cF _ aiJ) λai=>?_;have vQ:=pU;have ae3:=(ak.au Qw).trans Qx;refine rD 9 λK hK=>?_;refine dj jV underlying29 aJ Z aE aJ _ _ aJ _ 0 eA (l.filter λq=>!jg x q) aJ vQ x (fr _) _ aJ _ (Qx.bF VN λe=>by have:=(aq.lt hO _ e).2;simp at this) aJ nQ IJ (bt _) ?_;exact aiK):=h
def ajf(k:Q)(h:KK Q->P:=by intro kk;have b0:w.cell? (U 1 0)=some (.int .u32 0x6a09e667):=hT.pQ 0 Z;have b1:w.cell? (U 1 1)=some (.int .u32 0xbb67ae85):=hT.pQ 1 Z;have b2:w.cell? (U 1 2)=some (.int .u32 0x3c6ef372):=hT.pQ 2 Z;have b3:w.cell? (U 1 3)=some (.int .u32 0xa54ff53a):=hT.pQ 3 Z;have b4:w.cell? (U 1 4)=some (.int .u32 0x510e527f):=hT.pQ 4 Z;have b5:w.cell? (U 1 5)=some (.int .u32 0x9b05688c):=hT.pQ 5 Z;have b6:w.cell? (U 1 6)=some (.int .u32 0x1f83d9ab):=hT.pQ 6 Z;have b7:w.cell? (U 1 7)=some (.int .u32 0x5be0cd19):=hT.pQ 7 Z;have TQ:=J hT;revert b0 b1 b2 b3 b4 b5 b6 b7 TQ;exact kk.o):=h ⟨k⟩
def agz(k:Q)(h:KK Q->P:=by intro kk;have nz:=iL.aD hBd;refine rF hK (cF _ nz) λai=>?_;have hsp:=aiM a3 q.ba c3 q.bc D.bk wd Vv (by have:=(Mu.later nz).rb;rw[RI.out] at this;exact this) (by have:=hlH.out.2.2.1;omega);rw[show D.bk.length=q.Bk.length by rw[RI.out]] at hsp;refine rD 16 λK hK=>?_;go_simp;(try rw[show D.bk.length=q.Bk.length by rw[RI.out]]);apply hsp.Q;revert nz ai hsp K hK;exact kk.o):=h ⟨k⟩
def abG(h:P:=by go_wp2_with (first|(go_at_call 31;apply(hwa _).Q;clear hwa;rintro e w' ⟨rfl,rfl⟩)|(go_at_call 31;apply(hwd _).Q;rintro e w' ⟨rfl,rfl⟩));go_ret;exact⟨by rw[Nu.out,hz.out];rfl,cB pB⟩):=h
def alZ(k:Q)(h:KK Q->P:=by intro kk;have:=aft a8 c8 (bf.map vq) W' (LG<|rq.later hb) (by have h8:=(jX o.text).1;rw[<-LS.out,ct] at h8;rw[ct];omega) (λc hc w' hb'=>Pc Vg LS (by rw[<-an];exact ht) hM8 c hc w'<|(Fo.aD hb).aD hb');rw[ct,R3 LS.out] at this;revert this;exact kk.o):=h ⟨k⟩
def ajo(h:P:=by have hD:fU D o=({D with gs:=gsU},⟨1,rs,0⟩):=(by unfold fU;rw[hU.out];simp only;rw[a' hnU.out,<-Hq.out,hrr.out,a' hr0.out]);have hzo:=hzy.out;go_wp2_with (refine aa I bG _ _ I _ I hzo (⟨1,rs,0⟩:xz).arr I I aR (bQ _) ?_;intro w30 sW o0);refine bL (v:=.agg (⟨1,rs,0⟩:xz).arr) ?_ I ?_;(.exact RO);rw[<-hR.out,hD];exact⟨I,_,_,eH UZ.out O3.out (ak.aH o0 λi e=>(cR e).symm) (pV _) af2 O hzo Z⟩):=h
def O6(k:Q)(h:KK Q->P:=by intro kk;refine kk3 ?_;intro y5 kA _ _ _ _ w5 cf dz hz h5;have Xu:=hz.lt;have sY:=J kA;have mM:=vo o w5<|hO.later h5.low;rw[hr] at mM;rename_i yo CA Mj VD;revert y5 kA yo CA Mj VD w5 cf dz hz h5 Xu sY mM;exact kk.o):=h ⟨k⟩
def ah7(k:Q)(h:KK Q->P:=by intro kk;have h0:=h.cell0;have hsh:=h.shape;have hfz:=h.frozen0;go_enter func224,ntmps224;go_wp2;rw[Lib.run_to_unsafe w (U b 0) underlying210 underlying309 hj (by rw[hjs];decide) hsh<|Nat.zero_lt_succ 1];simp only[Result.andThen];rw[Sz];go_wp2;rw[run_callFunc_extern func284 dU dU dU (e:=Extern.AbiNoEscape.same) dU];rw[Lib.run_noEscape];simp only[Result.andThen];rw[Sz];go_wp2;rw[Lib.run_from_unsafe w (U b 0) underlying309 underlying210 hj hsh HQ];simp only[Result.andThen];rw[Sz];go_wp2;go_end0;revert h0 hsh hfz;exact kk.o):=h ⟨k⟩
def agx(k:Q)(h:KK Q->P:=by intro kk;have CE:=J<|aly.aD Hj;have L_:=J<|hB.aD Hj;have Sm:=J<|hQ0.later Hj;have xw:=J Pq;have Vt:=hCe.out wz CE p;obtain⟨q,hq⟩:∃q,q=atP ps p:=⟨_,I⟩;obtain⟨D,hD⟩:∃D,D=Vs Ds p:=⟨_,I⟩;obtain⟨X,hX⟩:∃X,X=wr.heap.size:=⟨_,I⟩;revert CE L_ Sm xw Vt q hq D hD X hX;exact kk.o):=h ⟨k⟩
def IS(k:Q)(h:KK Q->P:=by intro kk;refine ur ?_;refine tK 6 ?_;refine tK 7 ?_;exact kk.o):=h ⟨k⟩
def aiw(h:P:=by have hr:=J<|aeu hl' c0 c1 c2 c3;have b0:(L.toList==[97,99,99,101,112,116])=false:=(by rw[A6,beq_eq_false_iff_ne];exact c0);have b1:(L.toList==[97,99,99,101,112,116,45,108,97,110,103,117,97,103,101])=false:=(by rw[A6,beq_eq_false_iff_ne];exact c1);have b2:(L.toList==[99,111,110,116,101,110,116,45,108,97,110,103,117,97,103,101])=false:=(by rw[A6,beq_eq_false_iff_ne];exact c2);have b3:(L.toList==[99,111,110,116,101,110,116,45,116,121,112,101])=false:=(by rw[A6,beq_eq_false_iff_ne];exact c3);clear A6 c0 c1 c2 c3;go_wp2;go_ret;exact KU):=h
def aj1(h:P:=by refine rF hK (cF _ Aa) λai=>?_;refine rD 2 λK hK=>?_;go_simp;apply(hot _ Aa).Q;rintro e w8 ⟨⟨v,rfl,hO⟩,pG⟩;obtain⟨a5,c5,rfl,hr5,_⟩:=aq.shape bw hO;have Ab:=Aa.aD pG;refine rF hK (cF _ Ab) λai=>?_;refine amg ?_;intro Ph g9 xY w9 IW wi acW pF ai L1 rU K hK;rintro e w10 ⟨⟨v,rfl,CW⟩,rk⟩;obtain⟨a6,c6,rfl,hr6,_⟩:=aq.shape bw CW;have oZ:=pF.aD rk;refine rF hK (cF _ oZ) λai=>?_;refine ajY ?_;intro Pj agu Fp Vm Cv Nu ai ajZ q hq zu rN ri Mt kh gl;clear cF hot IW L1 wi acW pF rU CW rk oZ Pj Vm Cv dR VN hO pG;exact aj0):=h
def aju(h:P:=by refine tK 12 ?_;refine dN ?_;have h8:=J<|h7.later dR;have hT8:=J (eI.below (b:=b) (Bs:=Bs)<|hJ.aD dR);have xf:=hz7.later dR;refine Lw ?_;intro Mr;clear cF h7 hz7 e8 dR;generalize w7.drew=w8 at *;go_wp2_with (refine aa I bG _ _ I _ I xf (bC 7).arr I I aR (bQ _) ?_;intro w30 sW o0);refine bL (v:=.agg (bC 7).arr) ?_ I ?_;(.exact G4);exact⟨I,_,_,om h8.out hT8.out (ak.aH o0 λi e=>(cR e).symm) (pV _) O Mr xf Z⟩):=h
def aiI(h:P:=by intro g4 kQ w4 CT PW agK;have nT:=tN.grown PW tN.size λk hk=>(vQ.lt k hk).1;refine rF hK (cF _ nT) λai=>?_;refine tK 6 ?_;refine dN ?_;have amk:=J nT;clear nT PW;obtain⟨a6,c6,e6,hr6,_⟩:=aq.shape aE CT;clear CT;rw[iH.out] at e6 hr6;have amJ:=J hr6;have e6':=J e6;have zf:=J<|Bq.aD amk;have hN6:=J<|hNz.later amk;clear hr6 e6 N0 cF;go_wp2;refine bM ?_;exact⟨k+1,a6,c6,O,cJ,by rw[gw.out];exact e6',by rw[gw.out];exact amJ,zf,hN6⟩):=h
def af6(h:P:=by exact⟨I,_,_,om h8 hT8 (ak.aH o0 λi e=>(cR e).symm) (pV _) O Mr xf Z⟩):=h
def Fx(k:Q)(h:KK Q->P:=by intro kk;have iO:Region.wanted o (yielded l6 a.tmps)=true:=(by simp [Region.wanted,Hq]);rw[a' iO];revert iO;exact kk.o):=h ⟨k⟩
def aiv(k:Q)(h:KK Q->P:=by intro kk;have hKs:K.size<=1000000:=(by have:=HO 59 v;rw[an,hKl];rw[<-an] at this;omega);have htr:=λw'=>jO K ⟨#[32,9]⟩ w' O Z lq;obtain⟨T,hT⟩:∃T:F,T=⟨(Lib.trimS K.data.toList [32,9]).toArray⟩:=⟨_,I⟩;rw[show(⟨#[32,9]⟩:F).data.toList=[32,9] from I,<-hT] at htr;have D8:T.data.toList=Lib.trimS (kP 59 v) [32,9]:=(by rw[hT,bD,hKl]);have hTs:T.size<=1000000:=(by have:=xF K [32,9];rw[hKl] at this;rw[an,D8];rw[<-hKl,<-an K] at this;rw[<-hKl];omega);revert hKs T htr hT D8 hTs;exact kk.o):=h ⟨k⟩
def Wn(k:Q)(h:KK Q->P:=by intro kk;have hK0:=J<|mO.start hk0 H7 H6;have Hr:=J<|hRH.later hB;have Wo:((k0:Int)==-1)=false:=beq_eq_false_iff_ne.2 O;have pB:=J hB;have hPH:=J hp;revert hK0 Hr Wo pB hPH;exact kk.o):=h ⟨k⟩
def Wp(k:Q)(h:KK Q->P:=by intro kk;have l0:=λwa (h:ak (λi=>i=g0) w wa)=>hPH.out wa ps[j] (h.mono λi e=>uc)<|ej cY;have CP:=J λe=>hK.keep cY e;have CQ:=J λe=>hK.skip cY e;revert l0 CP CQ;exact kk.o):=h ⟨k⟩
def akd(h:P:=by refine rD 15 λK hK=>?_;refine bj I fo _ _ I _ I hAc p'.arr I I ff (kM p') ?_;intro wb iE fv;have Ab:=ag zC fv zC.size O;have VF:=iF.grown fv nJ;refine rF hK (cF _ Ab) λai=>?_;refine agP ?_;intro wf iL ki qE ai;clear cF Q0;go_wp2;go_meet;exact⟨p',_,_,I,I,J<|iE.grown ki nJ,J iL,J ((hRc.box hAc Z fv (.inr<|.inl I) O).box VF Z ki (.inr<|.inr I) O),qE,O,O⟩):=h
def ajL(k:Q)(h:KK Q->P:=by intro kk;have Ho:=acC.aD (ag ((aL RZ RZ).alloc lJ<|.cells cC aM) agn bT lJ);have nK:=J<|kp.aD Ho;have Hb:=J<|LV.later Ho;have LX:=J<|Fq.later Ho;have y7:=J acD;have Pe:=acC.size;have ago:=acD.lt;generalize hqg:RZ.heap.size=qg at y7 ago;have ajM:qa<qg:=O;have LY:=nK.size;clear Ho hqg;obtain⟨C,hC⟩:∃C,Hid<|x7 (Gr.map cj.d) a.d=C:=⟨_,J I⟩;revert nK Hb LX Pe qg y7 ago ajM LY C hC;exact kk.o):=h ⟨k⟩
def akb(h:P:=by refine rD 15 λK hK=>?_;refine bj I fo _ _ I _ I Ft p'.arr I I ff (kM p') ?_;intro wb iE fv;have Ab:=ag rl fv rl.size O;have VF:=hB.grown fv nJ;refine rF hK (cF _ Ab) λai=>?_;refine agP ?_;intro wf iL ki qE ai;clear cF Q0;go_wp2;go_meet;exact⟨p',_,_,I,I,J<|iE.grown ki nJ,J iL,J ((hRc.box Ft Z fv (.inr<|.inl I) O).box VF Z ki (.inr<|.inr I) O),qE,O,O⟩):=h
def akc(h:P:=by refine rD 15 λK hK=>?_;refine bj I fo _ _ I _ I hA p'.arr I I ff (kM p') ?_;intro wb iE fv;have Ab:=ag s6 fv s6.size O;have VF:=St.grown fv nJ;refine rF hK (cF _ Ab) λai=>?_;refine agP ?_;intro wf iL ki qE ai;clear cF Q0;go_wp2;go_meet;exact⟨p',_,_,I,I,J<|iE.grown ki nJ,J iL,J ((hRc.box hA Z fv (.inr<|.inl I) O).box VF Z ki (.inr<|.inr I) O),qE,O,O⟩):=h
def Wm(h:P:=by obtain rfl:ps.length=k:=O;have hn:=J (show ps.any f=false from aeo);go_wp2;go_ret;exact⟨_,I,.inl ⟨I,hn⟩,hB⟩):=h
def akj(h:P:=by refine rD 11 λK hK=>?_;refine bj I jK _ _ I _ I hAc (cG xx n5) I I jc (s4 _ _) ?_;intro wb iE fv;have Ab:=ag zC fv zC.size O;have VF:=iF.grown fv nJ;refine rF hK (cF _ Ab) λai=>?_;refine agO ?_;intro wf iL ki qE ai hR9;clear Ht cF;go_wp2;go_meet;exact⟨xx,_,_,I,I,J<|iE.grown ki nJ,J iL,hR9,J ((hT3.box hAc Z fv (.inr<|.inl I)).box VF Z ki (.inr<|.inr I)),O,O⟩):=h
def NS(k:Q)(h:KK Q->P:=by intro kk;refine tK 1 ?_;refine tK 2 ?_;refine tK 3 ?_;exact kk.o):=h ⟨k⟩
def pY(h:P:=by go_wp2;go_ret;exact⟨I,I⟩):=h
def akg(h:P:=by refine rD 11 λK hK=>?_;refine bj I jK _ _ I _ I Ft (cG xx n5) I I jc (s4 _ _) ?_;intro wb iE fv;have Ab:=ag rl fv rl.size O;have VF:=hB.grown fv nJ;refine rF hK (cF _ Ab) λai=>?_;refine agO ?_;intro wf iL ki qE ai hR9;clear Ht cF;go_wp2;go_meet;exact⟨xx,_,_,I,I,J<|iE.grown ki nJ,J iL,hR9,J ((hT3.box Ft Z fv (.inr<|.inl I)).box VF Z ki (.inr<|.inr I)),O,O⟩):=h
def akh(h:P:=by refine rD 11 λK hK=>?_;refine bj I jK _ _ I _ I hA (cG xx n5) I I jc (s4 _ _) ?_;intro wb iE fv;have Ab:=ag s6 fv s6.size O;have VF:=St.grown fv nJ;refine rF hK (cF _ Ab) λai=>?_;refine agO ?_;intro wf iL ki qE ai hR9;clear Ht cF;go_wp2;go_meet;exact⟨xx,_,_,I,I,J<|iE.grown ki nJ,J iL,hR9,J ((hT3.box hA Z fv (.inr<|.inl I)).box VF Z ki (.inr<|.inr I)),O,O⟩):=h
def ajR(h:P:=by apply(vt _).Q;rintro e w3 ⟨rfl,rfl⟩;go_wp2_with fail;apply(Cu _).Q;rintro e w4 ⟨rfl,rfl⟩;go_wp2_with fail;apply(td 4 _).Q;rintro e w5 ⟨rfl,dZ⟩;refine Ui ?_;intro Oq Ot f0' f1';clear q0 q3 f0 f1;go_wp2;obtain⟨c0,c1⟩:=eU (mI 4) (mI<|-1) Oq Ot;refine bL (by simp [results,results51,go_sem,c0,c1];try rfl) rfl ?_;refine⟨_,[],?_,aq.nil _ _,tQ,?_⟩;(.rw[hr.out]);have hb3:=Bq.aD dZ;go_grown):=h
def ajC(h:P:=by refine agt ?_;intro ai K hK;apply(iX 2 _).Q;rintro e wa ⟨rfl,mc⟩;refine vp ?_;intro lo ai K hK jJ;refine acJ ?_;intro wb iE fv ai K hK jR;refine bj I bG _ _ I _ I jR (bC 2).arr I I aR (bQ _) ?_;refine VU ?_;intro wf iL ai rO qz zv rQ zw;clear oR fI lo jJ iE fv jR;go_wp2;refine bL (v:=.tuple #[.agg p.arr,.agg (bC 2).arr]) ?_ I ?_;(.exact Vi);(try rw[hD]);exact⟨p,I,zw.qV,zv⟩):=h
def It(h:P:=by clear ud;go_ret;exact⟨⟨_,I,Ir.base (B':=af) λg hg=>de hb (Ir.lt g hg).1⟩,(aL w w).grown PG lJ λk hk=>by cases hk⟩):=h
def acB(k:Q)(h:KK Q->P:=by intro kk;have akz:=ag ((aL Fp Fp).alloc lJ<|.cells j' eW) IX bT lJ;have pz:=J<|(Vf.aD rk).aD yi;have kp:=J<|pz.aD akz;have LU:=J (show a.d.il by rw[hdH.out];exact vg ht);have Fq:=J<|Nh.txt.later akz;have LV:=J acA;have Vh:=acA.lt;have aml:=pz.size;generalize hqa:Fp.heap.size=qa at LV Vh;have ajJ:w7.heap.size<=qa:=O;clear akz hqa aml;revert pz kp LU Fq qa LV Vh ajJ;exact kk.o):=h ⟨k⟩
def sZ(h:P:=by go_wp2_with fail;exact Eh):=h
def abx(k:Q)(h:KK Q->P:=by intro kk;obtain⟨pt,jh⟩:∃r,r=yg ⟨k,al,av,dn,aU,cg,aP,bm⟩ ao aC aA iC jq n:=⟨_,I⟩;rw[<-jh];have hv:=J (show pt=(if (!l' k ||!pr cg)=true then ((1:Int),(⟨#[]⟩:F)) else if n<1\/4294967295<n then (2,⟨#[]⟩) else if (dd<|gk ⟨k,al,av,dn,aU,cg,aP,bm⟩ ao aC aA iC jq).1=true then (3,⟨#[]⟩) else (0,⟨(dd<|gk ⟨k,al,av,dn,aU,cg,aP,bm⟩ ao aC aA iC jq).2.toArray⟩)) from jh);clear jh;revert pt hv;exact kk.o):=h ⟨k⟩
def Sp(k:Q)(h:KK Q->P:=by intro kk;have CG:=J<|CE.aD QC;have adh:=J<|L_.aD QC;have Mu:=J<|Sm.later QC;have hby:=J<|xw.later QC;have hr7:=J wh;refine amh ?_;intro Vu RI hpc zG zW hlH;revert CG adh Mu hby hr7 Vu RI hpc zG zW hlH;exact kk.o):=h ⟨k⟩
def H5(h:P:=by go_wp2_with fail;apply hI.Q;rintro e w1 ⟨r,rfl,hr,hB⟩;obtain rfl:=SS hr;clear hr;go_wp2;go_ret;exact⟨_,I,aq.nil _ _,ak.au hB,I⟩):=h
def Qu(h:P:=by go_wp2_with fail;apply N0.Q;rintro e w2 ⟨⟨v,rfl,hO⟩,hB⟩;clear N0;go_wp2;go_ret;exact⟨⟨_,I,by rw[hr.out];exact hO.base (B':=w.heap.size) λg hg=>de ua.size (hO.lt g hg).1⟩,ua.aD hB⟩):=h
def WR(h:P:=by go_wp2_with (first|(refine ae I 39 _ I _ I hq0 _ underlying39 I aB ?_)|((with_reducible show wpList _ _ _ ({dst:=_,op:=Op.binOp _ _ _ _ _,type:=_,pos:=_,after:=_,guard:=_}::_) _ _);refine bq _ I .eql 39 39 _ _ I (pE x.ar) (pE o) aJ aJ b' _ (h1 _) ?_));go_ret;exact⟨I,hH.out⟩):=h
def aa8(h:P:=by have hTh:=J Nn;clear Nn;obtain⟨g,amK,rfl,uF⟩:=hO.shape hT0;have F':=HG (P:=prog) wr 172 9 5 (U g 0) amK _ underlying172 underlying5 underlying9 uF;clear uF hO hT0 hc hws;go_wp2_with fail;apply(Uu ⟨T.toArray⟩ wr<|by show T.toArray.size<=_;simp;omega).Q;rintro e w1 ⟨rfl,pB⟩;go_wp2;go_ret;exact⟨by rw[hTh.out];rfl,hB.aD pB⟩):=h
def LL(k:Q)(h:KK Q->P:=by intro kk;have jf:=(aL w w).drew.aD dZ;refine rF hK ((cF _ jf).2.1) λai=>?_;refine tK 24 ?_;revert jf ai;exact kk.o):=h ⟨k⟩
def RU(h:P:=by gi_wp2;refine⟨trivial,?_⟩;gi_wp2;exact⟨RT _ _ _,h1.setCell (p:=(U w 0)) lJ _,Cd _ _ _<|by rw[h2];rfl,by rw[Lp];exact h3,by rw[x9,fC]⟩):=h
def Lj(k:Q)(h:KK Q->P:=by intro kk;have UZ:=J<|hP.later CG;have O3:=J (hTo.trans hP<|cN.below CG);have hqy:=J<|hqx.later CG;have hzy:=J<|hzx.later CG;revert UZ O3 hqy hzy;exact kk.o):=h ⟨k⟩
def Iu(h:P:=by go_wp2;go_ret;exact⟨⟨_,I,by rw[show dH k l=l from ahq];exact H4⟩,aL _ _⟩):=h
def adt(k:Q)(h:KK Q->P:=by intro kk;have cf:=(((aL w w).alloc mS<|.cells o.arr kv).alloc mS<|.cells dK bG);have dz:=((A.new w o.arr kv).alloc<|.cells dK bG);have hz:=(A.new (w.alloc<|.cells o.arr kv) dK bG);revert cf dz hz;exact kk.o):=h ⟨k⟩
def Y3(h:P:=by go_wp2_with fail;apply zk.Q;rintro e w2 ⟨eA,rfl,pU,Qx,hb2⟩;have hI2:=J (Hv.eC JJ.out H4.out Qx pU (λg hg=>.inl<|by rw[<-hb2];exact hg));have TX:=Qx.bF JJ<|H4.apart Z JJ.out;obtain⟨a2,uX,rfl,amL⟩:=aq.shape aE pU;have c1:=TX.cell 0 I;have f1:=TX.free 0;clear amL zk Qx hb2 TX c0 pU;go_wp2;go_ret;exact⟨I,hI2.done⟩):=h
def Ss(k:Q)(h:KK Q->P:=by intro kk;have iL:=iE.aD iF;refine rF hK (cF _ iL) λai=>?_;refine wK ?_;refine tK 11 ?_;refine tK 12 ?_;refine tK 14 ?_;refine tK 15 ?_;refine rD 13 λK hK=>?_;go_simp;apply(hP1 _<|CG.aD iL).Q;revert iL ai K hK;exact kk.o):=h ⟨k⟩
def aca(h:P:=by refine Pa ?_;intro ai K hK;apply(iX 1 _).Q;rintro e wa ⟨rfl,mc⟩;refine vp ?_;intro lo ai K hK jJ;refine agp ?_;intro wb iE fv ai K hK jR;refine VU ?_;intro wf iL ai rO qz zv rQ zw;clear oR fI lo jJ iE fv jR;go_wp2;refine bL (v:=.tuple #[.agg q.arr,.agg (bC 1).arr]) ?_ I ?_;(.exact Vi);exact⟨q,I,zw.qV,zv⟩):=h
def xt(k:Q)(h:KK Q->P:=by intro kk;have lZ:=J (show A w7 w6 (aw o.X.dest) 39 from rT);revert lZ;exact kk.o):=h ⟨k⟩
def Qq(k:Q)(h:KK Q->P:=by intro kk;go_simp;have tN:Y w1 (w2.alloc (.cells #[ka,h1,p1,kU,h2,p2,ah,fz,bB,m,h,mI<|V+g] 167)):=jf.alloc jf.size _;revert tN;exact kk.o):=h ⟨k⟩
def R1(h:P:=by exact pg 6 fo 7 bG (w.heap.size+1+1) (w.heap.size+1+1+1) results12 I I (bH (iE.grown ki nJ) underlying33 I ff)<|bH iL jw I aR):=h
def acI(k:Q)(h:KK Q->P:=by intro kk;have kh:=J<|s3.later pG;have gl:=J<|rj.later pG;have rN:=J<|jl.later pG;have ri:=J<|hJ.aD pG;have ajO:=pG.size;have oR:Y w8 w8.drew:=(aL _ _).drew;have fI:∀w',Y w8 w'->A w' w p.arr fo:=λw' hb=>(CH.later pG).later hb;refine agt ?_;intro ai K hK;revert kh gl rN ri ajO oR fI ai K hK;exact kk.o):=h ⟨k⟩
def IV(k:Q)(h:KK Q->P:=by intro kk;have cL:=cV (.slice (vC pb VJ) Gs.length E)<|(aim.later nz).cell 0 I;go_simp;clear cL;refine rF hK (ak.au nz) λai=>?_;revert ai;exact kk.o):=h ⟨k⟩
def X0(k:Q)(h:KK Q->P:=by intro kk;have hr:=J<|aet hl' c3;have b0:(L.toList==[97,99,99,101,112,116])=false:=(by rw[A6,c3];decide);have b1:(L.toList==[97,99,99,101,112,116,45,108,97,110,103,117,97,103,101])=false:=(by rw[A6,c3];decide);have b2:(L.toList==[99,111,110,116,101,110,116,45,108,97,110,103,117,97,103,101])=false:=(by rw[A6,c3];decide);have b3:(L.toList==[99,111,110,116,101,110,116,45,116,121,112,101])=true:=(by rw[A6,c3];decide);revert hr b0 b1 b2 b3;exact kk.o):=h ⟨k⟩
def Sr(k:Q)(h:KK Q->P:=by intro kk;have iE:=hba.aD CD;refine rF hK (cF _ iE) λai=>?_;have Mq:Gs.length<=100000:=(by rw[<-ct (f:=cj.d),hm1];exact zG);have kA:Ws.length<=100000:=(by rw[<-ct (f:=dJ.d),hm2];exact zW);revert iE ai Mq kA;exact kk.o):=h ⟨k⟩
def Sn(k:Q)(h:KK Q->P:=by intro kk;have hG1:=λw' (hb:Y w w')=>Mo.out w' hb p;have Aw:=λw' (hb:Y w w')=>hWa.out w' hb p;have hP1:=λw' (hb:Y w w')=>hPa.out w' hb p;rw[<-hD] at hG1 Aw hP1;revert hG1 Aw hP1;exact kk.o):=h ⟨k⟩
def Qr(h:P:=by clear hr;go_enter func74,ntmps74;go_wp2_with fail;apply F'.Q;rintro e w2 ⟨rfl,dZ⟩;clear F';go_wp2;go_ret;exact⟨aW j5.symm,cf.aD dZ⟩):=h
def acU(k:Q)(h:KK Q->P:=by intro kk;refine ab9 ?_;intro oR Mt fI;refine Pa ?_;intro ai K hK;revert oR Mt fI ai K hK;exact kk.o):=h ⟨k⟩
def Av(h:P:=by refine bM ?_;exact⟨k+1,O,cJ,J<|hB.aD dZ,hn⟩):=h
def D1(k:Q)(h:KK Q->P:=by intro kk;have h1:=Nat.div_lt_of_lt_mul (by rw[uR];exact ht);revert h1;exact kk.o):=h ⟨k⟩
def QB(k:Q)(h:KK Q->P:=by intro kk;refine tL 4 (aw o.X.dest) q 0 (mP o.X.dest) (λw h=>h.1.range) underlying39 aB ?_;refine rD 5 λK hK=>?_;go_simp;apply(N_).Q;revert K hK;exact kk.o):=h ⟨k⟩
def Xe(k:Q)(h:KK Q->P:=by intro kk;intro g4 kQ w8 M8 oU AN;have qL:=(ak.au nT).trans (ak.aH oU λi hi=>hi);have ov:ak (sd (.slice a2 xK.length uX) b) w6 w8:=qL.mono λi hi=>.inl hi;have ze:=qL.bF Na.bF<|Na.og.apart Z Na.bF;have c4:=ze.cell 0 I;have f4:=ze.free 0;refine rF hK (cF _ ov) λai=>?_;refine tK 8 ?_;refine tK 9 ?_;refine rD 10 λK hK=>?_;go_simp;revert g4 kQ w8 M8 oU AN qL ov ze c4 f4 ai K hK;exact kk.o):=h ⟨k⟩
def W9(k:Q)(h:KK Q->P:=by intro kk;intro g4 kQ w6 M8 oU AN;have qL:=(ak.au nT).trans (ak.aH oU λi hi=>hi);have ov:ak (sd (.slice a1 Ws.length ew) b) w4 w6:=qL.mono λi hi=>.inl hi;have ze:=qL.bF Mn.bF<|Mn.ow.apart Z Mn.bF;have c4:=ze.cell 1 I;have f4:=ze.free 1;refine rF hK (cF _ ov) λai=>?_;refine tK 8 ?_;refine tK 9 ?_;refine rD 10 λK hK=>?_;go_simp;revert g4 kQ w6 M8 oU AN qL ov ze c4 f4 ai K hK;exact kk.o):=h ⟨k⟩
def pZ(k:Q)(h:KK Q->P:=by intro kk;have CO:=hR.len;have PD:=hR.cap_;unfold maxLen at PD;revert CO PD;exact kk.o):=h ⟨k⟩
def SB(h:P:=by rcases e with e|e;(.have:=hSH.out i e;omega);omega):=h
def uJ(k:Q)(h:KK Q->P:=by intro kk;refine tK 10 ?_;refine tK 11 ?_;refine tK 12 ?_;exact kk.o):=h ⟨k⟩
def acr(k:Q)(h:KK Q->P:=by intro kk;obtain⟨y0,y1⟩:=eU (mI 0) (mI<|-1) g0 g1;refine bL (v:=.agg #[mI 0,mI<|-1]) (by simp [results,results108,go_sem,y0,y1];try rfl) rfl ?_;refine⟨(HB.only.set (p:=(U w 0)) (.inl (.inr<|ma yn))<|mI 0).set (p:=(U w 1)) (.inl (.inr<|ma yn)) (mI<|-1),?_⟩;rw[hr.out];revert y0 y1;exact kk.o):=h ⟨k⟩
def X3(h:P:=by clear Nu jf;go_wp2_with (at_builtin;refine cW I _ _ I _ w5 _ cM I ?_ X _ I ?_ ?_ ?_ ?_;exact vQ.out;exact I;exact hcl;exact tN.size;intro v7 w7 hO7 hG7);refine bM ?_;exact⟨k+1,cM++[X],O,cJ,fK,ahc,J hO7,J<|bn tN.out vQ.out hG7 tN.size⟩):=h
def Y1(k:Q)(h:KK Q->P:=by intro kk;have ny:Y wz wz.drew:=(aL _ _).drew;have hlf:(l.filter λq=>!jg x q).length<=l.length:=fx _ _;have nQ:(l.filter λq=>!jg x q).length+1<=maxLen:=l3;have IJ:((l.filter λq=>!jg x q).length+1)*144<=140737488355328:=O;have iH:=J (show(l.filter λq=>!jg x q)++[x]=qh l x from I);revert ny hlf nQ IJ iH;exact kk.o):=h ⟨k⟩
def aby(k:Q)(h:KK Q->P:=by intro kk;have zU:=J (show pt=(if (dd<|gk ⟨k,al,av,dn,aU,cg,aP,bm⟩ ao aC aA iC jq).1=true then (3,⟨#[]⟩) else (0,⟨(dd<|gk ⟨k,al,av,dn,aU,cg,aP,bm⟩ ao aC aA iC jq).2.toArray⟩)) by rw[hv.out,aY Z,aY O]);have Hr:=hR O;have UW:=hCn O;rw[hN2 O] at Hr UW;revert zU Hr UW;exact kk.o):=h ⟨k⟩
def RJ(h:P:=by go_wp2_with fail;go_meet;exact⟨I,J ⟨lo.kO RI z' abu.out _,by simpa using abu.set 0<|.bool true,ho1.setCell (p:=(U p 0)) hpB _⟩⟩):=h
def H9(h:P:=by refine bM ?_;exact⟨i+1,j+1,_,cJ,cJ,O,O,hk',J hR3,J<|pU.trans vQ⟩):=h
def KX(k:Q)(h:KK Q->P:=by intro kk;have hxo:(⟨xa,xb,xc,xd⟩:W4).ok:=(by rw[hx.out];exact KE _ _ _ afP _);obtain⟨ha,hb,hc,hd⟩:=hxo;simp only[] at ha hb hc hd ⊢;revert ha hb hc hd;exact kk.o):=h ⟨k⟩
def P7(h:P:=by clear hq;go_wp2_with (go_at_call 191;apply(jS _ _).Q;rintro e w' ⟨rfl,rfl⟩);refine vU ?_;exact⟨k+1,O,cJ,by rw[<-fin.out],hn⟩):=h
def YX(h:P:=by go_wp2_with (first|((with_reducible show wpList _ _ _ ({dst:=_,op:=Op.binOp _ _ _ _ _,type:=_,pos:=_,after:=_,guard:=_}::_) _ _);refine bq _ I .eql 39 39 _ _ I #[ka,g1,p1] #[so,ho,po] aJ aJ b' _ (h1 _) ?_));go_ret;exact AM):=h
def J3(k:Q)(h:KK Q->P:=by intro kk;have nQ:ps.length+1<=maxLen:=l3;have u9:(ps.length+1)*32<=140737488355328:=O;revert nQ u9;exact kk.o):=h ⟨k⟩
def L4(k:Q)(h:KK Q->P:=by intro kk;have e1:decide ((i:Int)<0)=false:=bT;have e2:decide ((4:Int)<=(i:Int))=false:=fK;have hi0:(0:Int)<=(i:Int):=O;revert e1 e2 hi0;exact kk.o):=h ⟨k⟩
def Zw(k:Q)(h:KK Q->P:=by intro kk;have CV:=lh s k3 FK;obtain⟨Y,hY⟩:∃Y:F,Y=⟨(dt s k3).toArray⟩:=⟨_,I⟩;have hYl:Y.data.toList=eJ s k3:=(by rw[hY,bD];rfl);have hYs:Y.size<=1000000:=(by have:Y.size=(dt s k3).length:=(by rw[hY,nh]);omega);obtain⟨j4,CF⟩:∃j4,eK s k3=j4:=⟨_,I⟩;have Of:k3+(dt s k3).length=j4:=CF;revert CV Y hY hYl hYs j4 CF Of;exact kk.o):=h ⟨k⟩
def XT(h:P:=by rw[e1] at hc;apply hc.Q;rintro e w' ⟨rfl,n,cM,rfl⟩;refine⟨I,Jd (ss:=ss) (ts:=lE<|aT ss) (by rw[qd,e1]) hb hg hn jI hs I,?_⟩;have:=grownBy_sorted (w:=w) (g:=g) (n:=n) (os:=cM) ((aT ss).mergeSort λx y=>decide (x<=y)).toArray;exact ak.aH this λi e=>wC):=h
def Lv(k:Q)(h:KK Q->P:=by intro kk;refine kk3 ?_;intro y5 kA _ _ _ _ w5 cf dz hz h5;have sY:=J kA;have mM:=vo o w5<|hO.later h5.low;rw[hr] at mM;rename_i yo CA Mj VD;revert y5 kA yo CA Mj VD w5 cf dz hz h5 sY mM;exact kk.o):=h ⟨k⟩
def LP(h:P:=by rintro e w' ⟨rfl,rfl⟩;go_wp2;refine bM ?_;exact⟨i+1,true,O,cJ,sn,sn,hv⟩):=h
def Y0(k:Q)(h:KK Q->P:=by intro kk;have hZ:=A.new wr iy aZ;go_upto_region 4 with(first|(refine cD I aZ _ I pb (po+k*12) I (aX x) _ CR underlying167 I bV ?_)|(refine aa I aZ _ _ I _ I hZ x.arr I I bV (oB x) ?_;intro wz hpz VM));have CE:=ag ((aL _ _).alloc lJ<|.cells iy aZ) VM bT lJ;rename_i yo CA Mj;revert hZ yo CA Mj wz hpz VM CE;exact kk.o):=h ⟨k⟩
def Mb(h:P:=by exact .inl<|.inr ⟨e.1,Vx⟩):=h
def Py(h:P:=by obtain⟨_,h2⟩:=h;rcases h2 with⟨rfl,_⟩|⟨g,E,amP,rfl,_,hg,_⟩;(.intro e;cases e);intro e;have e':g=P:=cR e;subst e';rw[hp] at hg;grind):=h
def Im(h:P:=by refine⟨U g0 0,uT,λt u eu=>?_⟩;rw[zb O] at eu;simp at eu):=h
def acE(k:Q)(h:KK Q->P:=by intro kk;have k0:=cV a.d.scheme<|Hb.cell 0 I;have k2:=cV (.string a.d.av)<|Hb.cell 2 I;have k6:=cV (.bool a.d.aP)<|Hb.cell 6 I;have g6:=cV g.ask.d.scheme<|y7.cell 6 I;have g8:=cV (.string g.ask.d.av)<|y7.cell 8 I;have Pf:=hC.out;have IK:=hg.out;revert k0 k2 k6 g6 g8 Pf IK;exact kk.o):=h ⟨k⟩
def RY(k:Q)(h:KK Q->P:=by intro kk;refine R0 ?_;intro Ms;have hlw:p.Ws.length<=100000:=(by have:=hF.lw;rw[<-jl.dw,ct] at this;omega);revert Ms hlw;exact kk.o):=h ⟨k⟩
def abM(k:Q)(h:KK Q->P:=by intro kk;have hr:=J (show ea o=(decide (1<=o.bE)&&decide (o.bE<=10)&&e0 o.X&&(gE o.X.ar.host&&k5 o.X.ar.port)&&(gE o.X.dest.host&&k5 o.X.dest.port)&&decide (o.X.path.size<=200)&&(o.X.path.data.toList.head?==some 47)&&decide (o.text.size<=3000)) from I);generalize ea o=RB at hr ⊢;revert RB hr;exact kk.o):=h ⟨k⟩
def YE(h:P:=by go_split_ands;have hBx:=cB eD;go_wp2_with fail;apply(JB _<|hp.later hBx).Q;rintro e w3 ⟨rfl,jf⟩;go_wp2;go_ret;have hTd:T.data.toList=Lib.itoa bl:=(by rw[<-TQ.out]);exact⟨dO (Qp<|by simp [Mi,gR,NM.out,hTd]),hBx.aD jf⟩):=h
def JM(k:Q)(h:KK Q->P:=by intro kk;have cf:=J ((aL w w).alloc lJ<|.cells x.arr aZ);have jJ:=hq.later cf.out;revert cf jJ;exact kk.o):=h ⟨k⟩
def ah0(h:P:=by rw[gW h,Ar];simp [e]):=h
def abr(k:Q)(h:KK Q->P:=by intro kk;have hW:Y w ((w.alloc<|fH a).alloc<|i_ ao az):=((aL _ _).alloc lJ _).alloc bT _;have hc:=λw' h=>abq (a:=a) (ao:=ao) (az:=az) (w:=w) (w':=w') h;have hb:=λw' h=>Ld (a:=a) (ao:=ao) (az:=az) (w:=w) (w':=w') h;obtain⟨C,hC⟩:∃C,C=countB n:=⟨_,I⟩;have hcs:=sR n;revert hW hc hb C hC hcs;exact kk.o):=h ⟨k⟩
def P8(h:P:=by go_wp2_with (go_at_call 191;apply(jS _ _).Q;rintro e w' ⟨rfl,rfl⟩);go_ret2;exact⟨by rw[jU iH.out];rfl,rfl⟩):=h
def acX(k:Q)(h:KK Q->P:=by intro kk;refine rF hK (cF _ pF) λai=>?_;have L1:aq kC 4 cI w9 w7 (.slice (fJ g9) (C0.length+1) xY) C1:=IW;have rU:=ae6 8 w7 _ C1 w9 L1 pF.size hl4 Z;unfold Ez at rU;rw[hC2.out,show((8:Nat):Int)=8 from I] at rU;refine rD 9 λK hK=>?_;go_simp;apply rU.Q;revert ai L1 rU K hK;exact kk.o):=h ⟨k⟩
def XZ(k:Q)(h:KK Q->P:=by intro kk;have hr:=J<|aes hl' c2;have b0:(L.toList==[97,99,99,101,112,116])=false:=(by rw[A6,c2];decide);have b1:(L.toList==[97,99,99,101,112,116,45,108,97,110,103,117,97,103,101])=false:=(by rw[A6,c2];decide);have b2:(L.toList==[99,111,110,116,101,110,116,45,108,97,110,103,117,97,103,101])=true:=(by rw[A6,c2];decide);revert hr b0 b1 b2;exact kk.o):=h ⟨k⟩
def sV(h:P:=by go_wp2_with fail;go_meet;grind):=h
def ZZ(k:Q)(h:KK Q->P:=by intro kk;have hO5:=J<|(pU.mono hS1.sz).later rT;have hQ7:A (w3.alloc<|Obj.cells #[k2,r2,n2,o2,kU,nr,t2,.slice a2 l2.length ZX] 96) w3 #[k2,r2,n2,o2,kU,nr,t2,.slice a2 l2.length ZX] eW:=A.new w3 _ _;revert hO5 hQ7;exact kk.o):=h ⟨k⟩
def Cm(k:Q)(h:KK Q->P:=by intro kk;refine zx ?_;intro ai;refine tK 12 ?_;refine tK 13 ?_;revert ai;exact kk.o):=h ⟨k⟩
def acG(h:P:=by refine bL (v:=.tuple #[.agg q.arr,.agg (bC 1).arr]) ?_ I ?_;(.exact Vi);(try rw[hD]);exact⟨q,I,zw.qV,zv⟩):=h
def Y4(k:Q)(h:KK Q->P:=by intro kk;go_enter func17,ntmps17;go_upto_region 1 with(fail);rw[<-hw1];refine rG (λw'=>Y w1 w'/\A w' w r.arr cq) (cF _ ny) λai=>?_;refine tL 0 r.arr w 0 r.arr.toList (λw h=>h.2.range) underlying44 bK ?_;refine rD 1 λK hK=>?_;rename_i yo CA Mj;revert yo CA Mj ai K hK;exact kk.o):=h ⟨k⟩
def Lx(k:Q)(h:KK Q->P:=by intro kk;refine U3 ?_;intro e1 e2 e3 e4 e5;have e6:(o.bE==6)=false:=iD;have e7:(o.bE==7)=false:=iD;revert e1 e2 e3 e4 e5 e6 e7;exact kk.o):=h ⟨k⟩
def K4(h:P:=by intro l;induction l with|nil=>rfl|cons a r ih=>simp [Af,uz,ih];omega):=h
def ace(h:P:=by (try rw[hD]);exact⟨q,I,((hRC.box jJ Z fv (.inr ⟨O,O⟩) O).box jR Z ki (.inr ⟨O,O⟩) O).qV,ag (ag hBC fv O O) ki O O⟩):=h
def Yq(h:P:=by go_wp2;go_ret2;refine⟨_,_,[],I,ay.nil _ _,C5,?_,(λh=>by rw[jh.out] at h;cases h),(aN nT _).alloc (by simpa using akI) _⟩;rw[jh.out];exact .inr<|.inr ⟨_,I,gL _ _ _ _ 0 I I,gL _ _ _ _ 1 I I⟩):=h
def abH(h:P:=by go_wp2_with (first|(go_at_call 31;apply(hwa _).Q;clear hwa;rintro e w' ⟨rfl,rfl⟩)|(go_at_call 31;apply(hwd _).Q;rintro e w' ⟨rfl,rfl⟩));refine bM ?_;exact⟨k+1,aF[k],O,cJ,I,J<|by rw[hz.out];rfl,pB⟩):=h
def Xt(k:Q)(h:KK Q->P:=by intro kk;have p7:=J cf;have Xu:=h9.lt;go_wp2_with (first|(refine ae I bx _ I _ I zO _ dT I bJ ?_)|(refine ae I 39 _ I _ I hq _ underlying39 I aB ?_));apply(hfi w5 (hS.later cf) λg hg=>(hT g hg).later cf).Q;rename_i yo CA;revert p7 Xu yo CA;exact kk.o):=h ⟨k⟩
def Is(h:P:=by have h:=ud;rw[p4] at h;simpa [aq] using h):=h
def RW(k:Q)(h:KK Q->P:=by intro kk;refine rG (λw'=>w'.cell? (U w 21)=ev o.n/\w'.cell? (U b 12)=ev V) (cF _ dR) λai=>?_;refine tM ?_;revert ai;exact kk.o):=h ⟨k⟩
def aaV(k:Q)(h:KK Q->P:=by intro kk;have ht:(((L.length:Int)%64)!=56)=true:=(by rw[bne_iff_ne];unfold fT at cY;omega);have OV:L.length<=1000200:=O;have hLn:=J (show L++[0]=s.data.toList++[128]++List.replicate (j+1) 0 by rw[hL.out,Q_,l7 _<|List.replicate j 0]);have GR:=J hls;revert ht OV hLn GR;exact kk.o):=h ⟨k⟩
def IU(k:Q)(h:KK Q->P:=by intro kk;obtain⟨k,hk⟩:∃k:Nat,iu o p ah (Gs.map cj.d)=(k:Int):=⟨(iu o p ah<|Gs.map cj.d).toNat,O⟩;revert k hk;exact kk.o):=h ⟨k⟩
def YC(h:P:=by go_wp2_with fail;apply(JB _<|hp.later hB.drew).Q;rintro e w2 ⟨rfl,dZ⟩;go_wp2;go_ret;have hTd:T.data.toList=Lib.itoa bl:=(by rw[<-TQ.out]);exact⟨dO (Qp<|by simp [Mi,gR,NM.out,hTd]),hB.drew.aD dZ⟩):=h
def X6(h:P:=by clear AH WY hNa;go_wp2_with fail;apply(zM _ aix.out).Q;rintro e wb ⟨⟨ab,cb,rfl,hSb⟩,hNb⟩;have CD:=J (hNb.below mc.out mc.size λi e=>A9 aix.out e);clear zM hNb;go_wp2;go_ret;exact⟨⟨_,_,I,hSb⟩,CD.out⟩):=h
def XG(h:P:=by have hn:Hid<|ec s k=j - k:=J (by unfold ec;rw[yy.out,rS.out];simp);go_wp2;go_quiet (fail);go_wp2;go_ret;exact⟨aW<|by rw[hn.out];simp;omega,by rw[hn.out,show k+(j - k)=j from O];exact hC.drewN _,cw hG.out _⟩):=h
def R2(k:Q)(h:KK Q->P:=by intro kk;refine bj I bG _ _ I _ I jR (bC 2).arr I I aR (bQ _) ?_;exact kk.o):=h ⟨k⟩
def QV(h:P:=by exact((qZ.only.mono hS).append oU (λi e=>.inl (.inr<|.inr (gn hXd.row e).1))).set (.inl (.inr<|.inl I)) _):=h
def yz(k:Q)(h:KK Q->P:=by intro kk;have hl:k<s.data.toList.length:=Tz;revert hl;exact kk.o):=h ⟨k⟩
def Es(h:P:=by rintro e w' ⟨rfl,hB⟩;go_wp2;go_ret;exact⟨I,hB⟩):=h
def abV(k:Q)(h:KK Q->P:=by intro kk;have dR:Y w7 w7.drew:=(aL _ _).drew;have cF:∀w',Y w7 w'->w'.cell? (U w 21)=ev o.n/\w'.cell? (U b 12)=ev V:=λw' hb=>⟨(e8.later hb).cell 21 I,(h7.bF.later hb).cell 12 h7.now⟩;revert dR cF;exact kk.o):=h ⟨k⟩
def LR(k:Q)(h:KK Q->P:=by intro kk;have e1:(o.bE==1)=false:=iD;have e2:(o.bE==2)=true:=iD;have JJ:=J hv;revert e1 e2 JJ;exact kk.o):=h ⟨k⟩
def Qt(h:P:=by have ajP:=J<|gi.trans NT;clear vV wi NT;go_wp2;refine bM ?_;exact⟨k+1,O,cJ,YP,ajP⟩):=h
def acT(k:Q)(h:KK Q->P:=by intro kk;have rN:=J DC;have ri:=J<|ag (hJ.aD kp) L0 (by have:=hJ.size;have:=kp.size;omega) lJ;have kh:=J<|(s3.later kp).grown L0 nJ;have gl:=J<|(rj.later kp).grown L0 nJ;revert rN ri kh gl;exact kk.o):=h ⟨k⟩
def ZM(k:Q)(h:KK Q->P:=by intro kk;have Vk:=ahA.then bT hB.out;have q0:=aO Vk 0 (v:=mI 0) I;have q3:=aO Vk 1 (v:=mI 0) I;have f0:=vF Vk 0;have f1:=vF Vk 1;have Bq:=J<|cB Vk;have Mm:w.heap.size<wr.heap.size:=eP bT Vk.size;clear Vk;revert q0 q3 f0 f1 Bq Mm;exact kk.o):=h ⟨k⟩
def Md(h:P:=by exact .inr Vx):=h
def Zz(k:Q)(h:KK Q->P:=by intro kk;have nz:=o7 hq;obtain⟨V,hV⟩:∃V:F,V=⟨v.toArray⟩:=⟨_,I⟩;have hVl:V.data.toList=v:=(by rw[hV,bD]);have hVs:V.size<=1000000:=(by have:=nz.1;rw[an,hVl];rw[<-an] at this;simp only at this;omega);have hk4:k4<=s.size:=(by rw[an];exact nz.2.2);revert nz V hV hVl hVs hk4;exact kk.o):=h ⟨k⟩
def aa7(h:P:=by go_wp2_with (at_builtin;refine e9 I _ _ I _ _ _ _ I pU c _ hb'.out I O Mm ?_;intro eS w1 CB hg1);refine bM ?_;exact⟨j+1,O,cJ,by rw[hM'.out];exact CB,bn dZ pU hg1 Mm⟩):=h
def ES(k:Q)(h:KK Q->P:=by intro kk;refine bL (by simp [results,results118,go_sem,c0,c1];try rfl) rfl ?_;exact kk.o):=h ⟨k⟩
def aaA(h:P:=by go_enter func328,ntmps328;go_wp2;go_region;go_wp2;go_ret;refine⟨s9 ?_,1,I⟩;rw[iO.out];unfold ns;simp only[lp,tE s 0 i0,tE s 1 afI,tE s 2 afJ,tE s 3 i3];first|rfl|simp):=h
def acw(k:Q)(h:KK Q->P:=by intro kk;have py:=Vf.aD rk;have acx:=py.size;have kh:=J<|s3.later py;have gl:=J<|rj.later py;have rN:=J<|jl.later py;have ri:=J<|hJ.aD py;have oR:Y w10 w10.drew:=(aL _ _).drew;revert py acx kh gl rN ri oR;exact kk.o):=h ⟨k⟩
def Sg(k:Q)(h:KK Q->P:=by intro kk;refine bL (by simp [results,results51,go_sem,c0,c1];try rfl) rfl ?_;exact kk.o):=h ⟨k⟩
def Z4(h:P:=by exact .inr<|.inr ⟨_,I,gL _ _ _ _ 0 I I,gL _ _ _ _ 1 I I⟩):=h
def acQ(k:Q)(h:KK Q->P:=by intro kk;have hX:∀W',Y w3.drew W'->BT W' w1 (.slice a3 ps.length alu) ps/\Y w1 W'/\w1.heap.size<=W'.heap.size:=λW' h=>⟨(hO.later (aL w3 w3).drew).later h,hB.drew.aD h,(hB.drew.aD h).size⟩;revert hX;exact kk.o):=h ⟨k⟩
def R7(h:P:=by go_enter func107,ntmps107;go_wp2;go_quiet (fail);go_wp2;go_ret;exact⟨aW rS.symm,_,I⟩):=h
def wS(k:Q)(h:KK Q->P:=by intro kk;refine tK 6 ?_;refine tK 7 ?_;refine tK 8 ?_;exact kk.o):=h ⟨k⟩
def YW(k:Q)(h:KK Q->P:=by intro kk;have h1:=λw=>fN x.ar r.ar w;have h2:∀w,_=Result.ok (Value.bool<|u' x r) w:=λw=>Qi x.dest r.dest x.path x.query r.path r.query w;revert h1 h2;exact kk.o):=h ⟨k⟩
def aaf(h:P:=by have hB':Y w (wr.setCell (U w j) (bv<|bZ m)):=hB.setCell lJ _;clear Kx hb x9;simp only[bv] at aae hB';rw[<-aiZ] at aae hB';clear aiZ;go_wp2;go_ret2;exact⟨by rw[ak5.out];rfl,hB'⟩):=h
def YZ(k:Q)(h:KK Q->P:=by intro kk;have CR:wr.rangeAt pb (po+k*12)<|aX ps[k]:=hc;have gw:=J (show(ps.take<|k+1).foldl qh bk=qh ((ps.take k).foldl qh bk) ps[k] by rw[gW cY,Bl];rfl);have kR:=mF (ps.take k) bk;rw[ou] at kR;revert CR gw kR;exact kk.o):=h ⟨k⟩
def adi(h:P:=by obtain⟨k,hk,rfl,hBi⟩:=hrel;by_cases cY:k<D.cs.length;(.exact aj8);obtain rfl:D.cs.length=k:=O;have hBf:=J<|Vw.aD hBi;go_wp2;refine bM ?_;exact⟨p+1,O,O,cJ,hBf⟩):=h
def acH(h:P:=by (try rw[hD]);exact⟨q,I,zw.qV,zv⟩):=h
def LZ(h:P:=by (try rw[hD]);exact⟨p,I,zw.qV,zv⟩):=h
def abc(h:P:=by have hZs:Z.size=8:=(by rw[an,hZl,gU]);rw[<-hZ] at F';clear hZ uF hK;go_wp2;go_ret;refine⟨dO ?_,hB⟩;apply E3;have hl:=(an s).symm;apply Array.toList_inj.1;simp [mw,hZl,hRh.out,hl]):=h
def Xl(k:Q)(h:KK Q->P:=by intro kk;have d0:=cV (.bool o.sec)<|mh.cell 0 I;have d1:=cV (.string o.host)<|mh.cell 1 I;have d2:=cV o.port<|mh.cell 2 I;have d3:=cV (.bool p)<|mh.cell 3 I;have d4:=cV (.string u)<|mh.cell 4 I;revert d0 d1 d2 d3 d4;exact kk.o):=h ⟨k⟩
def Xk(k:Q)(h:KK Q->P:=by intro kk;have a0:=cV (.bool o.sec)<|mg.cell 0 I;have a1:=cV (.string o.host)<|mg.cell 1 I;have a2:=cV o.port<|mg.cell 2 I;have a3:=cV (.bool p)<|mg.cell 3 I;have a4:=cV (.string u)<|mg.cell 4 I;revert a0 a1 a2 a3 a4;exact kk.o):=h ⟨k⟩
def abv(h:P:=by go_wp2_with fail;apply afZ.Q;rintro e w4 ⟨rfl,hb4,ho4,hk4⟩;go_wp2;go_end0;refine⟨I,⟨?_,?_⟩,hZ2.out.2.trans ho4⟩;(.rw[jh.out,alj.out];simp_all);rw[jh.out];exact hk4 p _ _ z' RI hZ2.out.1):=h
def acd(k:Q)(h:KK Q->P:=by intro kk;have hpC:=J<|hpQ.later iF;have U_:=J<|alq.later iF;have O_:=J<|alr.later iF;have hRC:=J<|hRQ.later iF;have hBC:=J<|hBQ.aD iF;have hgC:=J<|hgQ.later iF;have hsC:=iF.size;have hlC:=O_.lt;revert hpC U_ O_ hRC hBC hgC hsC hlC;exact kk.o):=h ⟨k⟩
def WM(h:P:=by intro g IG;exact((hin g IG).stays (S2:=grow S wr w3) (ho3.mono (T:=λi=>(λ_=>True) i/\rm wx i) λi e=>⟨trivial,by rw[e];exact dP lo Z⟩) λi hi _=>⟨hi.1,by have:=hi.2;omega⟩)):=h
def WH(k:Q)(h:KK Q->P:=by intro kk;have CS:=J (λW (hb:Y w W)=>uU Gs[k] W (WG.nv.1.later hb) (WG.zL.1.later hb) (de (show Gs[k].ask.d.domain.length<=100000 from zc.l1) Z)<|de (show Gs[k].paths.length<=100000 from zc.l2) Z);revert CS;exact kk.o):=h ⟨k⟩
def QW(h:P:=by exact A.kO (A.grown (A.alloc qZ.cur _) oU<|T9 c O) _ _ (by simpa using λe=>iL e.symm)):=h
def Mc(k:Q)(h:KK Q->P:=by intro kk;have uN:=zC.size;have my:Y wc wc:=aL _ _;have rU:=hAc.lt;have zB:=iF.lt;revert uN my rU zB;exact kk.o):=h ⟨k⟩
def H'(h:P:=by refine bM ?_;exact⟨i,j+1,d,I,cJ,O,O,hk',VI,pU⟩):=h
def Zc(k:Q)(h:KK Q->P:=by intro kk;obtain⟨g,hg⟩:∃g:cj,Hid (g=⟨x.ar,x.ax,o.user,o.pass,x.ask,0,fP x.ask.d x.ax<|jB x.path,aS,cS⟩):=⟨_,J I⟩;have vV:g.arr=(⟨x.ar,x.ax,o.user,o.pass,x.ask,0,fP x.ask.d x.ax<|jB x.path,aS,cS⟩:cj).arr:=(by rw[hg.out]);revert g hg vV;exact kk.o):=h ⟨k⟩
def Sq(k:Q)(h:KK Q->P:=by intro kk;have hba:=dR.aD mc;refine rF hK (cF _ hba) λai=>?_;refine rD 5 λK hK=>?_;go_simp;apply(Aw _<|CG.aD hba).Q;revert hba ai K hK;exact kk.o):=h ⟨k⟩
def EB(k:Q)(h:KK Q->P:=by intro kk;have dR:Y w7 w7.drew:=(aL _ _).drew;revert dR;exact kk.o):=h ⟨k⟩
def Fc(h:P:=by go_wp2;go_ret;exact⟨aW Cj,abO⟩):=h
def abT(h:P:=by refine bL (v:=.agg (R).arr) ?_ I ?_;(.exact G4);exact⟨I,_,_,om hT.1 hTw (ak.aH o0 λi e=>(cR e).symm) (pV _) O Mr xf Z⟩):=h
def abF(h:P:=by go_enter func59,ntmps59;go_wp2_with (go_at_call 129;apply(vH _ _ z5).Q;rintro e w' ⟨rfl,rfl⟩);exact RP):=h
def Sj(k:Q)(h:KK Q->P:=by intro kk;refine VE ?_;intro wb iE fv ai K hK jR;refine bj I bG _ _ I _ I jR (bC 1).arr I I aR (bQ _) ?_;revert wb iE fv ai K hK jR;exact kk.o):=h ⟨k⟩
def H_(k:Q)(h:KK Q->P:=by intro kk;have gp:=hK.len;obtain⟨hd1,Ia⟩:=hK.done;have FC:=J hd1;have vR:=J Ia;revert gp hd1 Ia FC vR;exact kk.o):=h ⟨k⟩
def Z2(k:Q)(h:KK Q->P:=by intro kk;have hxs:=kc 10 s _<|ej cY;have lA:(dA 10 s.data.toList).drop k=(bu 10 s)[k].data.toList::(dA 10 s.data.toList).drop (k+1):=(by exact ZN);revert hxs lA;exact kk.o):=h ⟨k⟩
def H2(k:Q)(h:KK Q->P:=by intro kk;have hfa:FB f ps (k:Int):=.inr ⟨k,I,cY,hq,hN⟩;have hn:=J hfa;clear hfa;revert hn;exact kk.o):=h ⟨k⟩
def Q7(h:P:=by exact cK 6 bG (w.heap.size+1) results18 I<|bH N' jw I aR):=h
def RO(h:P:=by exact cK 4 bG (w.heap.size+1) results14 I<|bH sW jw I aR):=h
def QA(h:P:=by exact cK 4 bG (w.heap.size+1) results20 I<|bH N' jw I aR):=h
def aah(k:Q)(h:KK Q->P:=by intro kk;unfold qt;obtain⟨S0,hS0⟩:∃S0:F,S0=⟨(du 16 n<|kg 16 n).toArray⟩:=⟨_,I⟩;rw[<-hS0];have aai:Hid<|S0.data.toList=du 16 n (kg 16 n):=aak;clear hS0;have hd':=J cY;revert S0 aai hd';exact kk.o):=h ⟨k⟩
def Qv(k:Q)(h:KK Q->P:=by intro kk;go_simp;have Qw:Y wz (wz.drew.alloc<|.cells x.arr aZ):=ny.alloc ny.size _;have VN:=A.new wz.drew x.arr aZ;revert Qw VN;exact kk.o):=h ⟨k⟩
def ZY(k:Q)(h:KK Q->P:=by intro kk;have vR:=J Ia;have rT:=(aL w3 w3).alloc lJ<|Obj.cells #[k2,r2,n2,o2,kU,nr,t2,.slice a2 l2.length ZX] 96;have VS:=J<|(hS1.then jf).then rT;revert vR rT VS;exact kk.o):=h ⟨k⟩
def ZW(k:Q)(h:KK Q->P:=by intro kk;have hQ6:A (wr.alloc<|Obj.cells #[sc,tk,.slice ad ps.length cp] 187) wr #[sc,tk,.slice ad ps.length cp] 187:=A.new wr _ _;have b0:=hQ6.cell 0 I;have b1:=hQ6.cell 1 I;have b2:=hQ6.cell 2 I;revert hQ6 b0 b1 b2;exact kk.o):=h ⟨k⟩
def YO(k:Q)(h:KK Q->P:=by intro kk;have VL:=J (show gQ ((ms.take<|k+1).map λm=>((m,⟨#[]⟩):BP))=nk (gQ ((ms.take k).map λm=>((m,⟨#[]⟩):BP))) (ms[k],⟨#[]⟩) by rw[gW cY,je,ue,u4]);revert VL;exact kk.o):=h ⟨k⟩
def PQ(k:Q)(h:KK Q->P:=by intro kk;have CR:wr.rangeAt pb (po+k*16)<|bp Gs[k]:=hc;have AB:=ej cY;have zc:=FG.out _<|uf AB;revert CR AB zc;exact kk.o):=h ⟨k⟩
def RH(k:Q)(h:KK Q->P:=by intro kk;have Le:=λw' h=>(⟨h,hc w' h⟩:_/\sS w ⟨⟨sc,al,av,dn,aU,cg,aP,bm⟩,ad,E⟩ ao az w');revert Le;exact kk.o):=h ⟨k⟩
def ah1(h:P:=by unfold oH;split;(.simp);split;(.simp);split;(.simp);refine de (oi _) ?_;rw[qS];have:=xU o.X<|ee o.text;have:=xV<|ee o.text;omega):=h
def Ih(k:Q)(h:KK Q->P:=by intro kk;rw[<-SP,show i+(ps.length - j)+(ps.length - (i+(ps.length - j)))=ps.length from O];exact kk.o):=h ⟨k⟩
def WW(h:P:=by refine DX ?_;intro ai;refine rD 7 λK hK=>?_;go_simp;have tN:Y w2 (w3.alloc<|.cells g'.arr aM):=jf.alloc jf.size _;exact kk5):=h
def ZA(k:Q)(h:KK Q->P:=by intro kk;have hS:=λw'=>gG u1 X w' l3 l3;rw[hb] at hS;have n0':(wr.alloc<|Obj.cells #[u1,u2] 89).cell? (U p0 0)=some (.string X):=(VQ.alloc _).cell 0 I;revert hS n0';exact kk.o):=h ⟨k⟩
def acm(h:P:=by refine rE 11 23 (λK hK=>?_) λK hK=>?_;(.refine Cm ?_;intro ai;exact agM);go_simp;apply(ht _).Q;rintro e w2 ⟨rfl,dZ⟩;refine LL ?_;intro jf ai;exact aco):=h
def acn(h:P:=by refine rE 3 23 (λK hK=>?_) λK hK=>?_;(.refine zx ?_;intro ai;exact agM);go_simp;apply(ht _).Q;rintro e w2 ⟨rfl,dZ⟩;refine LL ?_;intro jf ai;exact acp):=h
def ac0(k:Q)(h:KK Q->P:=by intro kk;have hs8:=pG.size;obtain⟨q,hq⟩:∃q:oV,Hid<|q={{p with ga:=a3,gc:=c3,Gs:=L} with wa:=a4,wc:=c4,Ws:=M}:=⟨_,J I⟩;have zu:Hid<|A w9 w q.arr fo:=J (by rw[hq.out];exact qE);have Dw:∀i,Zn S w i->i<w7.heap.size:=λi e=>(by have hz:=rj.lt;exact SB);revert hs8 q hq zu Dw;exact kk.o):=h ⟨k⟩
def Qg(k:Q)(h:KK Q->P:=by intro kk;refine D1 ?_;intro h1;have h2:t%12<12:=lx _ Z;have h3:t=t / 12*12+t%12:=(by rw[uR];exact(MV t 12).symm);revert h1 h2 h3;exact kk.o):=h ⟨k⟩
def Qy(k:Q)(h:KK Q->P:=by intro kk;refine D1 ?_;intro h1;have h2:t%4<4:=lx _ Z;have h3:t=t / 4*4+t%4:=(by rw[uR];exact(MV t 4).symm);revert h1 h2 h3;exact kk.o):=h ⟨k⟩
def Fg(k:Q)(h:KK Q->P:=by intro kk;have Dw:∀i,Zn S w i->i<w7.heap.size:=λi e=>(by exact SB);revert Dw;exact kk.o):=h ⟨k⟩
def Z7(k:Q)(h:KK Q->P:=by intro kk;have Mq:(oH o.X (ee o.text) V).1.length<=1000:=(by exact ah1);obtain⟨gv,xy⟩:∃gv,Hid<|oH o.X (ee o.text) V=gv:=⟨_,J I⟩;obtain⟨u,eu⟩:∃u,Hid<|V+tS (ee o.text)=u:=⟨_,J I⟩;revert Mq gv xy u eu;exact kk.o):=h ⟨k⟩
def XW(h:P:=by have hr:=J<|aeq hl' c0;have b0:(L.toList==[97,99,99,101,112,116])=true:=(by rw[A6,c0];decide);clear A6 c0;go_wp2;go_ret;exact⟨by rw[hr.out,<-hbf.out];rfl,dZ⟩):=h
def aaz(k:Q)(h:KK Q->P:=by intro kk;have i0:0<s.size:=O;have afI:1<s.size:=O;have afJ:2<s.size:=O;have i3:3<s.size:=O;have j1:(1:Int)<(s.size:Int):=O;have j2:(2:Int)<(s.size:Int):=O;have j3:(3:Int)<(s.size:Int):=O;revert i0 afI afJ i3 j1 j2 j3;exact kk.o):=h ⟨k⟩
def J1(k:Q)(h:KK Q->P:=by intro kk;obtain⟨j2,Hx⟩:∃j2,cP s j=j2:=⟨_,I⟩;have CF:j+ec s j=j2:=Hx;revert j2 Hx CF;exact kk.o):=h ⟨k⟩
def Rf(k:Q)(h:KK Q->P:=by intro kk;have uN:S.size=m:=(by rw[an,hS.out,fS]);have AH:S.size<=m:=O;have zM:m<=S.size:=O;clear uN;revert AH zM;exact kk.o):=h ⟨k⟩
def XL(k:Q)(h:KK Q->P:=by intro kk;have D8:=VH.1 Gj;have Nn:s.toList.isEmpty=true:=(by rw[eR,D8];rfl);revert D8 Nn;exact kk.o):=h ⟨k⟩
def Ju(k:Q)(h:KK Q->P:=by intro kk;have nT:=J<|ag (aN jf nq) hG5 (aN jf nq).size lJ;revert nT;exact kk.o):=h ⟨k⟩
def HS(h:P:=by rw[gW h,yQ,h0];simp [e]):=h
def ab7(k:Q)(h:KK Q->P:=by intro kk;rw[hIq.out,show L6++[⟨(⟨#[113,111,112]⟩:F),cg,false⟩,⟨(⟨#[110,99]⟩:F),jq,false⟩]=(L6++[(⟨(⟨#[113,111,112]⟩:F),cg,false⟩:dE)])++[⟨(⟨#[110,99]⟩:F),jq,false⟩] by simp];exact kk.o):=h ⟨k⟩
def acj(k:Q)(h:KK Q->P:=by intro kk;have h1:x.jj.size<=l.length:=(by rw[an];exact hs.jj);have h2:∀p∈x.ps,p.1.size<=l.length/\p.2.size<=l.length:=λp hp=>(by rw[an,an];exact hs.par (p.1.data.toList,p.2.data.toList)<|jM.2 ⟨p,hp,I⟩);revert h1 h2;exact kk.o):=h ⟨k⟩
def nD(h:P:=by exact .inl<|.inl e):=h
def Xz(h:P:=by have amm:=Nh.past IX O;exact⟨⟨_,I,amm.base λg e=>de p7.size (amm.lt g e).1⟩,ag Xy IX Xy.size O⟩):=h
def XJ(h:P:=by go_ret2;exact lz.none iH ⟨I,(((hC.drewN _).put<|j+1).drewN _).put k,aI (cw (aI (cw hG _) (.inl I) _) _) (.inl I) _⟩):=h
def Xv(h:P:=by refine rD 4 λK hK=>?_;refine ain ?_;intro v8 w8 hO8 hG8;have pG:=nz.grown hG8 nz.size (λk hk=>by cases hk);refine rF hK (ak.au pG) λai=>?_;exact aio):=h
def W3(h:P:=by have hf:=hO;rw[fq] at hf ⊢;go_wp2;go_ret;exact⟨⟨_,I,hf⟩,hB⟩):=h
def Wz(k:Q)(h:KK Q->P:=by intro kk;have q24:∀(w:tW) (a:oT) (n c n' c':Nat),(binOp .eql 94 (.slice a n c)<|.slice none n' c').run prog w=.ok (.bool a.isNone) w:=λw a n c n' c'=>Qh w _ _ a n c n' c' underlying94;revert q24;exact kk.o):=h ⟨k⟩
def W2(h:P:=by have pU:=J<|aq.later WY dZ;have jf:=J<|mc.aD dZ;refine bM ?_;exact⟨k+1,O,cJ,J<|by rw[HH.out];exact pU,jf⟩):=h
def acR(k:Q)(h:KK Q->P:=by intro kk;have kp:=(pz).aD Vl;have zu:Hid<|A RZ w q.arr fo:=J (by rw[hq.out];have h3:=ags;rw[JX] at h3;exact h3);have acS:∀i,Zn S w i->i<Fp.heap.size:=λi e=>(by exact SB);revert kp zu acS;exact kk.o):=h ⟨k⟩
def XX(k:Q)(h:KK Q->P:=by intro kk;have hr:=J<|aer hl' c1;have b0:(L.toList==[97,99,99,101,112,116])=false:=(by rw[A6,c1];decide);have b1:(L.toList==[97,99,99,101,112,116,45,108,97,110,103,117,97,103,101])=true:=(by rw[A6,c1];decide);revert hr b0 b1;exact kk.o):=h ⟨k⟩
def QU(k:Q)(h:KK Q->P:=by intro kk;have T9:∀i,i<af->(Value.slice la bf.length sG).ownBlock≠some i:=λi hi e=>(by have:=gn hXd.row e;omega);revert T9;exact kk.o):=h ⟨k⟩
def Wu(h:P:=by obtain⟨ka,h1,p1⟩:=o;obtain⟨s1',VR,p1'⟩:=p;have hr:bI ⟨ka,h1,p1⟩ ⟨s1',VR,p1'⟩=((ka==s1')&&(h1.toList==VR.toList)&&(p1==p1')):=I;rw[hr];go_simp;grind):=h
def acs(h:P:=by exact ak.own ((ak.set (S:=λi=>i=w.heap.size) (ak.refl _ _) (.inl I) _).set (.inl I) _) HB.own λg hg=>R9 HB.own HB.qC Z hg):=h
def XH(h:P:=by go_wp2;go_quiet (fail);go_wp2;go_ret;exact⟨by rw[<-FO s k j hn.out];rfl,by rw[hn.out];exact(hC.drewN _).drewN _,cw (cw hG.out _) _⟩):=h
def Z8(h:P:=by rw[<-hR.out,hD];exact⟨I,_,_,eH hP8 ak2 (ak.aH Dc λi e=>(cR e).symm) (pV _) ak3 O xf Z⟩):=h
def abE(k:Q)(h:KK Q->P:=by intro kk;have qE:=dR.aD pF;refine rF hK (Lk _ qE) λai=>?_;refine rD 9 λK hK=>?_;go_simp;apply(UX o.X.dest.sec o.X.dest.host o.X.dest.port o.X.path o.X.query _ O O).Q;revert qE ai K hK;exact kk.o):=h ⟨k⟩
def Ip(k:Q)(h:KK Q->P:=by intro kk;intro u eu;rw[DP] at eu;obtain⟨x,_,hx⟩:=eu;rename_i yo;revert u x yo hx;exact kk.o):=h ⟨k⟩
def Rg(k:Q)(h:KK Q->P:=by intro kk;have JH:=iQ (P:=prog) wr ⟨#[48]⟩ S aam;revert JH;exact kk.o):=h ⟨k⟩
def P2(h:P:=by refine⟨?_,eP h2 ho.size⟩;rintro⟨h3|h3,_⟩;(.exact h1 h3);omega):=h
def Zg(k:Q)(h:KK Q->P:=by intro kk;have By:=(h6.later dR).lj QC hT7;refine rF hK (Ze _<|(ak.au dR).trans hT7.only) λai=>?_;refine dN ?_;have VO:=(ak.au (S:=B.Sb) dR).trans hT7.only;have hq7:=J (Ze _ VO).1;revert By ai VO hq7;exact kk.o):=h ⟨k⟩
def Ic(h:P:=by refine⟨U g0 0,uT,λt u eu=>?_⟩;grind):=h
def IE(h:P:=by rw[gW h,Bl];rfl):=h
def Xw(k:Q)(h:KK Q->P:=by intro kk;have Xx:=J (bn hJ (aef.base (B':=w.heap.size) λk e=>by have:=(aef.lt k e).1;omega) wi hJ.size);have hs9:w5.heap.size<=w9.heap.size:=(by have:=wi.size;simp at this;omega);revert Xx hs9;exact kk.o):=h ⟨k⟩
def Eh(h:P:=by go_meet;exact⟨I,I⟩):=h
def Y'(k:Q)(h:KK Q->P:=by intro kk;have cA:=cV (.slice a1 D6.cs.length ew)<|(h6.bF.alloc<|.cells #[o.X.dest.sec,o.X.dest.host,o.X.dest.port,o.cert] zl).cell (aj+2) h6.c2;go_simp;clear cA;exact kk.o):=h ⟨k⟩
def adz(k:Q)(h:KK Q->P:=by intro kk;refine rG (λw'=>A w' w p.arr fo) (fI _ oR) λai=>?_;refine tL 0 p.arr w 0 p.arr.toList (λw h=>h.range) underlying33 ff ?_;refine tK 1 ?_;refine rD 2 λK hK=>?_;revert ai K hK;exact kk.o):=h ⟨k⟩
def WE(k:Q)(h:KK Q->P:=by intro kk;have hz0:=J (show A ((w.alloc<|.cells (aw o) 39).alloc<|.cells cC aM) (w.heap.size+1) cC aM by have:=A.new (w.alloc<|.cells (aw o) 39) cC aM;rwa [b9] at this);revert hz0;exact kk.o):=h ⟨k⟩
def acF(k:Q)(h:KK Q->P:=by intro kk;obtain⟨s0,y5⟩:∃s0,a.d.aP=s0:=⟨_,I⟩;obtain⟨ka,AH⟩:∃ka,(a.d.scheme==g'.ask.d.scheme)=ka:=⟨_,I⟩;obtain⟨kU,zM⟩:∃kU,(a.d.av.toList==g'.ask.d.av.toList)=kU:=⟨_,I⟩;revert s0 y5 ka AH kU zM;exact kk.o):=h ⟨k⟩
def ac8(h:P:=by rw[kB,aY O,kB,aY O,kB,aY O];exact h.now):=h
def abz(k:Q)(h:KK Q->P:=by intro kk;have hIq:=J (show ja ⟨k,al,av,dn,aU,cg,aP,bm⟩ jq=[⟨(⟨#[113,111,112]⟩:F),cg,false⟩,⟨(⟨#[110,99]⟩:F),jq,false⟩] by unfold ja;simp only[ik];rfl);revert hIq;exact kk.o):=h ⟨k⟩
def XY(h:P:=by go_wp2_with fail;apply(CY v _ l3).Q;rintro e w2 ⟨rfl,rfl⟩;go_wp2;go_ret;exact KU):=h
def WX(h:P:=by refine Fx ?_;intro iO;exact wp_store_mid uS x y ho b 0 vs hx hy (by rw[hs];exact hb.there) hi h1 (h _ (hb.all vs hs)<|gX b vs.toList 0 w)):=h
def acf(k:Q)(h:KK Q->P:=by intro kk;have hdm:=J<|AT gx.ar gx.ax gx.ask.d.al q.Gs;have Fh:Hid<|∀g∈q.Gs.filter (λx=>!fO gx.ar gx.ax gx.ask.d.al x.d),g∈q.Gs:=J λg hg=>(fY.1 hg).1;revert hdm Fh;exact kk.o):=h ⟨k⟩
def abh(k:Q)(h:KK Q->P:=by intro kk;have hN:iZ t (cH t j)=((cH t j).getD (j - 16) 0+(cH t j).getD (j - 7) 0+Ux ((cH t j).getD (j - 15) 0)+Uy ((cH t j).getD (j - 2) 0))%4294967296:=(by unfold iZ;rw[kA,aY h16]);revert hN;exact kk.o):=h ⟨k⟩
def abI(h:P:=by go_wp2_with (go_at_call 31;apply(dS _ _ _ _).Q;rintro e w' ⟨rfl,rfl⟩);go_ret;exact⟨by rw[Nu.out,hz.out];rfl,cB pB⟩):=h
def Ef(k:Q)(h:KK Q->P:=by intro kk;have cf:=(aL w w).alloc lJ<|.cells x.arr aZ;revert cf;exact kk.o):=h ⟨k⟩
def adk(k:Q)(h:KK Q->P:=by intro kk;have Ft:=hAc.alloc<|.cells dK bG;refine rF hK (cF _ rl) λai=>?_;have uN:=rl.size;have my:Y wc (wc.alloc<|.cells dK bG):=(aL _ _).alloc mS _;revert Ft ai uN my;exact kk.o):=h ⟨k⟩
def abb(k:Q)(h:KK Q->P:=by intro kk;have F':=HG (P:=prog) wr 172 9 5 (U w1 0) 8 _ underlying172 underlying5 underlying9 uF;rw[gU] at F';revert F';exact kk.o):=h ⟨k⟩
def IP(k:Q)(h:KK Q->P:=by intro kk;refine rF hK (cF _<|ak.au nT) λai=>?_;refine rD 7 λK hK=>?_;revert ai K hK;exact kk.o):=h ⟨k⟩
def acP(k:Q)(h:KK Q->P:=by intro kk;refine J3 ?_;intro nQ u9;have ajS:=hB.size;have ajT:IntKind.i64.wrap ((q:Int)+1)=(q:Int)+1:=ai3;have hi1:(0:Int)<=(q:Int):=O;revert nQ u9 ajS ajT hi1;exact kk.o):=h ⟨k⟩
def ac1(k:Q)(h:KK Q->P:=by intro kk;have ri:=J<|ag (hJ.aD pG) G_ LF lJ;have kh:=J<|(s3.later pG).grown G_ nJ;have gl:=J<|(rj.later pG).grown G_ nJ;revert ri kh gl;exact kk.o):=h ⟨k⟩
def Xg(k:Q)(h:KK Q->P:=by intro kk;have cf:=(aL w w).alloc lJ<|.cells #[sc,al,av,dn,aU,cg,aP,.slice ad bm.length cp] 96;have p7:=J cf;revert cf p7;exact kk.o):=h ⟨k⟩
def aa3(h:P:=by clear KZ K0 K1 K2;go_wp2_with fail;((with_reducible apply(hnd _).Q));rintro e w' ⟨rfl,rfl⟩;go_wp2;(try rw[eG]);exact afS):=h
def ur(k:Q)(h:KK Q->P:=by intro kk;refine tK 4 ?_;refine tK 5 ?_;exact kk.o):=h ⟨k⟩
def adv(h:P:=by refine tK 27 ?_;refine tK 28 ?_;refine rD 29 λK hK=>?_;go_simp;refine rF hK (rS _ jf) λai=>?_;refine dN ?_;go_end0;exact amC _ jf):=h
def ac9(h:P:=by rw[kB,aY O,kB,aY O,kB,aY O]):=h
def YF(h:P:=by go_split_ands;have hBx:=cB eD;go_wp2;go_ret;exact⟨dO (Qp<|by simp [Mi,gR,NM.out]),hBx⟩):=h
def XV(h:P:=by have hr:=J<|Nr (n:=n.data.toList) (v:=v.data.toList) A5;go_wp2;go_ret;exact⟨tQ,aex⟩):=h
def Ll(k:Q)(h:KK Q->P:=by intro kk;refine tK 17 ?_;refine tK 18 ?_;refine tK 19 ?_;refine tK 20 ?_;refine tK 21 ?_;exact kk.o):=h ⟨k⟩
def Q5(k:Q)(h:KK Q->P:=by intro kk;have GC:((ps.length:Int)==40)=false:=Tq;have afv:ps.length<40:=O;revert GC afv;exact kk.o):=h ⟨k⟩
def adl(h:P:=by exact .inl<|.inr ⟨O,Vx⟩):=h
def DI(h:P:=by exact⟨I,(aL _ _).alloc lJ _⟩):=h
def HL(h:P:=by refine vU ?_;exact⟨k+1,O,cJ,hn⟩):=h
def Z5(k:Q)(h:KK Q->P:=by intro kk;have hr:=J (Kr BU (hinv.trans<|by rw[mv.out,ux h0 ln iO Z6]));have GC:((ps.length:Int)==40)=true:=(by rw[beq_iff_eq];omega);revert hr GC;exact kk.o):=h ⟨k⟩
def acY(k:Q)(h:KK Q->P:=by intro kk;go_simp;have VN:=A.new w7.drew (⟨o.X.dest,o.cert⟩:nm).arr kC;have Aa:Y w7 (w7.drew.alloc<|.cells (⟨o.X.dest,o.cert⟩:nm).arr kC):=dR.alloc dR.size _;revert VN Aa;exact kk.o):=h ⟨k⟩
def ahZ(h:P:=by have hs:t.size=1:=(by simpa [hq] using Wi);simp only[Ad] at rS;simp [storeVar,sizeOf,typeInfo,hq,eu,hs,rS,World.setCells]):=h
def W0(h:P:=by refine bM ?_;exact⟨k+1,O,cJ,J PX,J<|bn jf pU PW jf.size⟩):=h
def aaP(h:P:=by go_wp2_with fail;apply(CS _).Q;rintro e w1 ⟨rfl,rfl⟩;go_wp2;go_ret2;exact⟨tQ,(aL _ _).alloc lJ _⟩):=h
def Q4(h:P:=by go_wp2;refine bM ?_;exact⟨k+1,ps,O,cJ,hpl,hO,hB,hn⟩):=h
def YN(k:Q)(h:KK Q->P:=by intro kk;obtain⟨ms,VK⟩:∃ms,iW r ps=ms:=⟨_,I⟩;obtain⟨hs,hhs⟩:∃hs,oG ps=hs:=⟨_,I⟩;have hpv:=J (show lI r ps=gQ (gg ms hs) by unfold lI;rw[VK,hhs]);revert ms VK hs hhs hpv;exact kk.o):=h ⟨k⟩
def Ye(h:P:=by have hl:0<s.data.toList.length:=I3;rw[Kj,j7 hl,b8 s 0 h hl];rfl):=h
def XF(h:P:=by go_enter func230,ntmps230;go_wp2;go_quiet (fail);go_wp2;go_ret;exact⟨I,h.drewN _,cw (bW _ _) _⟩):=h
def ab9(k:Q)(h:KK Q->P:=by intro kk;have oR:Y RZ RZ.drew:=(aL _ _).drew;have Mt:=gl.lt;have fI:∀w',Y RZ w'->A w' w q.arr fo:=λw' hb=>zu.later hb;revert oR Mt fI;exact kk.o):=h ⟨k⟩
def YL(k:Q)(h:KK Q->P:=by intro kk;refine JM ?_;intro cf jJ;have c0:=cV (.bool o.sec)<|jJ.cell 0 I;have c1:=cV (.string o.host)<|jJ.cell 1 I;have c2:=cV o.port<|jJ.cell 2 I;revert cf jJ c0 c1 c2;exact kk.o):=h ⟨k⟩
def Ma(k:Q)(h:KK Q->P:=by intro kk;have Ft:=hA.alloc<|.cells dK bG;refine rF hK (cF _ rl) λai=>?_;revert Ft ai;exact kk.o):=h ⟨k⟩
def abw(h:P:=by go_enter func141,ntmps141;cases aU;(.go_wp2;go_ret;exact⟨I,ua⟩);go_wp2;go_ret;exact⟨I,ua⟩):=h
def V6(h:P:=by obtain rfl:k=ps.length:=O;have HH:=J<|MC hN;go_wp2_with fail;go_ret2;exact⟨by rw[HH.out];rfl,ua⟩):=h
def RP(h:P:=by go_ret;exact⟨aW BG,(aL _ _).alloc lJ _⟩):=h
def H3(h:P:=by go_ret;exact⟨_,I,hn,hB.aD dZ⟩):=h
def D3(k:Q)(h:KK Q->P:=by intro kk;have ho:=ak.aH hg λi e=>(cR e).symm;revert ho;exact kk.o):=h ⟨k⟩
def Yo(h:P:=by have cY:k3<l.length:=(by rw[r1,iN] at IJ;omega);have e:=d3.trans r1;rw[rK cY] at e;grind):=h
def aaX(k:Q)(h:KK Q->P:=by intro kk;have rS:=J (show((m:Int)%256)=((eB (8*s.size) k:Nat):Int) by rw[jI.out];unfold eB;omega);have hmn:=J (show m / 256=8*s.size / 2 ^ (8*(k+1)) by rw[jI.out,aaU]);go_wp2;rename_i yo;revert rS hmn yo;exact kk.o):=h ⟨k⟩
def acy(h:P:=by have fI:∀w',Y w10 w'->A w' w p.arr fo:=λw' hb=>(CH.later py).later hb;exact ajX):=h
def ahl(k:Q)(h:KK Q->P:=by intro kk;refine yz ?_;intro hl;have ahm:(s[k].toNat:Int)<256:=Pt;have gw:=J<|xS s k hl;rw[b8 s k cY hl,<-VK.out] at gw;revert hl ahm gw;exact kk.o):=h ⟨k⟩
def Io(k:Q)(h:KK Q->P:=by intro kk;have gp:(l.drop<|l.length - k).length=k:=Wr;revert gp;exact kk.o):=h ⟨k⟩
def s7(k:Q)(h:KK Q->P:=by intro kk;refine rF hK (cF _ s6) λai=>?_;revert ai;exact kk.o):=h ⟨k⟩
def acO(h:P:=by apply(vt _).Q;rintro e w3 ⟨rfl,rfl⟩;go_wp2_with fail;apply(Cu _).Q;rintro e w4 ⟨rfl,rfl⟩;exact agr):=h
def XS(h:P:=by rintro e w' ⟨rfl,rfl⟩;exact⟨I,by rw[show mV (lE<|aT [])=[] by simp [mV,lE,aT]];exact h,ak.refl _ _⟩):=h
def Yc(h:P:=by subst h;cases h:(c==d);(.simp only[beq_eq_false_iff_ne,ne_eq] at h ⊢;intro e;exact h<|Lo.1 O);grind):=h
def YM(k:Q)(h:KK Q->P:=by intro kk;have TX:=J<|oI.new W r a ps.length E V;have xy:=J<|TU r ps V;generalize oH r ps V=gv at xy ⊢;have kA:=J<|xW ps lH 1000 hM;revert TX gv xy kA;exact kk.o):=h ⟨k⟩
def Iq(k:Q)(h:KK Q->P:=by intro kk;have nQ:0+(l.length - (l.length - k))<=maxLen:=l3;revert nQ;exact kk.o):=h ⟨k⟩
def aaW(k:Q)(h:KK Q->P:=by intro kk;have ht:(((L.length:Int)%64)!=56)=false:=(by rw[bne_eq_false_iff_eq];unfold fT at hls;omega);have OV:L.length<=1000200:=O;have cF:=aaB;have GR:=J hls;revert ht OV cF GR;exact kk.o):=h ⟨k⟩
def Xj(h:P:=by rw[ik];clear ik;go_enter func49,ntmps49;go_wp2;go_ret;exact(xM _ _ _ _ _ bT p7.out).k):=h
def Lw(k:Q)(h:KK Q->P:=by intro kk;have Mr:¬WS Bs b (w.heap.size+1):=λe=>Lt;revert Mr;exact kk.o):=h ⟨k⟩
def IA(h:P:=by rintro e w' ⟨rfl,rfl⟩;exact pY):=h
def KO(h:P:=by rw[hn2.out,lQ,<-hd.out];exact hA3):=h
def abN(h:P:=by go_enter func13,ntmps13;go_wp2_with fail;go_ret;exact⟨aW Cj,by go_grown⟩):=h
def XE(k:Q)(h:KK Q->P:=by intro kk;have h1:(((s[k].toNat:Int))==34)=false:=adS;have h2:(((s[k].toNat:Int))==92)=false:=adS;revert h1 h2;exact kk.o):=h ⟨k⟩
def PV(k:Q)(h:KK Q->P:=by intro kk;go_simp;refine rF hK (cF _<|ak.au ny) λai=>?_;refine rD 6 λK hK=>?_;go_simp;revert ai K hK;exact kk.o):=h ⟨k⟩
def V5(h:P:=by intro p hp;rw[gW hk] at hp;rcases ek.1 hp with h1|h1;(.exact h p h1);grind):=h
def acg(h:P:=by have zO:=lM hpC.out;have hro:=ad7 hgC.out;have k3:=cV (.bool gx.ax)<|hgC.cell 3 I;exact ame):=h
def Zx(k:Q)(h:KK Q->P:=by intro kk;intro h;have h0:eJ s k3=[]:=(by rw[<-hYl];rw[eR] at h;simpa using h);unfold nG;refine⟨by rw[a' h0],?_⟩;rw[<-CF];unfold eK;rw[h0];revert h h0;exact kk.o):=h ⟨k⟩
def P5(h:P:=by rw[gW h,List.flatMap_append];simp):=h
def se(h:P:=by exact .inr O):=h
def ab8(h:P:=by rw[an,hV];rw[<-an] at h2;unfold qO;simp only[iN,iG,qF];omega):=h
def YQ(k:Q)(h:KK Q->P:=by intro kk;have rq:=J<|ahp.later pF;have cp9:=cV (.slice a9 (gy.map (nf r<|V+g)).length xY)<|(JJ.later pF).cell 0 I;rw[ct] at cp9;revert rq cp9;exact kk.o):=h ⟨k⟩
def R0(k:Q)(h:KK Q->P:=by intro kk;have Ms:p.Gs.length<=100000:=(by have:=hF.lg;rw[<-jl.dg,ct] at this;omega);revert Ms;exact kk.o):=h ⟨k⟩
def abB(k:Q)(h:KK Q->P:=by intro kk;have hIo:=J (show k1 ⟨k,al,av,dn,aU,cg,aP,bm⟩=[⟨(⟨#[111,112,97,113,117,101]⟩:F),dn,true⟩] by unfold k1;simp only[ik];rfl);revert hIo;exact kk.o):=h ⟨k⟩
def Zf(k:Q)(h:KK Q->P:=by intro kk;refine rG (λw'=>A w' q (aw o.X.dest) 39/\w'.cell? (U b aj)=vb B.bb) (Ze _<|ak.au dR) λai=>?_;revert ai;exact kk.o):=h ⟨k⟩
def Jr(h:P:=by exact⟨_,I,aq.nil _ _,aL _ _⟩):=h
def XM(k:Q)(h:KK Q->P:=by intro kk;have hi:=Tryz.strings_IndexByte ⟨sj.toArray⟩ (s[k].toNat:Int);rw[bD,Pu] at hi;obtain⟨ix,hix⟩:∃ix:Int,ix=Lib.indexByte sj s[k]:=⟨_,I⟩;revert hi ix hix;exact kk.o):=h ⟨k⟩
def QN(k:Q)(h:KK Q->P:=by intro kk;obtain⟨j,hj⟩:∃j,eK s k=j:=⟨_,I⟩;have hj2:k+(dt s k).length=j:=hj;revert j hj hj2;exact kk.o):=h ⟨k⟩
def aa6(h:P:=by rw[gW cY,List.flatMap_append,Af,List.flatMap_nil,oW]):=h
def acV(h:P:=by refine VU ?_;intro wf iL ai rO qz zv rQ zw;clear oR fI lo jJ iE fv jR;go_wp2;exact acG):=h
def E6(k:Q)(h:KK Q->P:=by intro kk;have h8:j<8:=(by rw[gU] at hj;exact hj);revert h8;exact kk.o):=h ⟨k⟩
def Xq(h:P:=by exact hE 8 aM 9 (w.heap.size+1+1) results45 I I<|bH ze dk I aV):=h
def ach(h:P:=by go_wp2;refine bL (v:=.tuple #[.agg q.arr,.agg (bC 2).arr]) ?_ I ?_;(.exact Vi);exact acH):=h
def XK(h:P:=by go_wp2;go_ret;exact⟨by rw[<-iH.out.1];rfl,by rw[iH.out.2];exact hC.drewN _,cw hG _⟩):=h
def Yz(h:P:=by refine rF hK (cF _ CE) λai=>?_;refine dN ?_;go_wp2;go_meet;exact⟨_,I,J hpz,J CE⟩):=h
def RM(h:P:=by go_wp2_with fail;go_ret2;exact⟨by rw[zU.out];rfl,hW0⟩):=h
def PZ(h:P:=by go_wp2;go_ret;exact xM _ _ _ _ _ bT p7.out):=h
def Xc(h:P:=by exact hE 8 aM 9 (w.heap.size+1) results61 I I<|bH ze dk I aV):=h
def WI(h:P:=by exact hE 8 aM 9 (w.heap.size+1) results69 I I<|bH ze dk I aV):=h
def Zi(h:P:=by rcases hg7 _ e2 with e3|e3;(.have:=nz.out _ e3;omega);have e4:w6.heap.size<=w.heap.size+1:=e3;omega):=h
def IL(h:P:=by rw[kx.1 h];exact FG.out):=h
def WJ(h:P:=by have jI:=adV;rw[fq] at jI;go_wp2;go_ret;exact⟨_,Hs,I,hO,jI,hIn,hB⟩):=h
def XD(k:Q)(h:KK Q->P:=by intro kk;have hn:=J<|mz ib s k cY ha hb;have ik:=To s k hl;rw[nN s k cY hl] at ik;have he':=J ik;clear ik;revert hn he';exact kk.o):=h ⟨k⟩
def Za(h:P:=by exact cK 4 bG (w.heap.size+1) results19 I<|bH oZ jw I aR):=h
def Zb(h:P:=by exact cK 4 bG (w.heap.size+1) results16 I<|bH oZ jw I aR):=h
def ZT(h:P:=by clear afo hO;have hR:=hS9.b.res;have x5:=hS9.b.low;go_upto_region 20 with(fail);exact Ov):=h
def aaT(k:Q)(h:KK Q->P:=by intro kk;have g1:IntKind.i64.wrap (4*(G:Int))=4*(G:Int):=fy _ O;have g2:(0:Int)<=4*(G:Int):=O;have g3:(4*(G:Int)).toNat=4*G:=O;revert g1 g2 g3;exact kk.o):=h ⟨k⟩
def Zj(h:P:=by exact⟨h.rg,h.rw,h.rb,h.rc,h.cap,h.tg,h.tw,h.dg,h.dw,h.db,h.dc,k _ h.fg,k _ h.fw,k _ h.fb,k _ h.fc⟩):=h
def adg(h:P:=by rintro e w' ⟨rfl,rfl⟩;exact⟨_,[],I,aq.nil _ _,I,(λg hg=>mf),aL _ _⟩):=h
def Fk(h:P:=by exact⟨hOn,BG⟩):=h
def Yp(k:Q)(h:KK Q->P:=by intro kk;have iH:Hid<|l8 s=.inr k3:=J (by rw[hinv.out,hq.out.1,En z1,<-hq.out.2.2.2.2.2.1]);have jh:=J<|yG iH;revert iH jh;exact kk.o):=h ⟨k⟩
def DX(k:Q)(h:KK Q->P:=by intro kk;refine rF hK (cF _<|ak.au jf) λai=>?_;revert ai;exact kk.o):=h ⟨k⟩
def ZB(k:Q)(h:KK Q->P:=by intro kk;have ua:=((aL wr wr).alloc lJ<|Obj.cells #[u1,u2] VP).then bT pF;have hP9:=J<|hPr.later hbq QO ua;revert ua hP9;exact kk.o):=h ⟨k⟩
def aaH(k:Q)(h:KK Q->P:=by intro kk;unfold Oper.wp execOp;simp only[ho,resolve,invoke,builtin,HU,Sem.run_pure,HV,List.map_toArray,Jc,List.map_nil,hs,hx,hr];exact kk.o):=h ⟨k⟩
def LC(h:P:=by simp [aT,SL,Lib.joinTail]):=h
def YD(h:P:=by go_wp2;go_ret;exact⟨dO (Qp<|by simp [Mi,gR,NM.out]),hB.drew⟩):=h
def Yw(h:P:=by unfold dG;rw[gW h,Ar,je];simp [hs]):=h
def aaS(h:P:=by clear hok;rintro e w2 ⟨rfl,dZ⟩;go_wp2;go_ret;exact⟨by rw[iH.out];rfl,hB.aD dZ⟩):=h
def HF(k:Q)(h:KK Q->P:=by intro kk;have hl:k<s.data.toList.length:=(by rw[<-e_];exact cY);revert hl;exact kk.o):=h ⟨k⟩
def aaE(h:P:=by clear hc hb;go_wp2;refine vU ?_;exact⟨j+1,q*256+y,O,cJ,cJ,NM,HH⟩):=h
def ZC(h:P:=by exact A.kO (A.grown (A.alloc qZ.cur _) oU<|T9 c O) _ _ fK):=h
def H0(k:Q)(h:KK Q->P:=by intro kk;have l0:=hp wr _ (ak.au hB)<|ej cY;revert l0;exact kk.o):=h ⟨k⟩
def Xf(k:Q)(h:KK Q->P:=by intro kk;refine rF hK (cF _ (ov.set (p:=(U b 0)) (.inl<|.inr I)<|.slice (fJ g4) (xK.length+1) kQ)) λai=>?_;refine dN ?_;revert ai;exact kk.o):=h ⟨k⟩
def aac(h:P:=by intro x hx;by_cases hxk:x<k;(.exact x9 x hxk);rw[show x=k from O,<-cF.out];exact h):=h
def Wv(k:Q)(h:KK Q->P:=by intro kk;refine D1 ?_;intro h1;have h2:t%13<13:=lx _ Z;have h3:t=t / 13*13+t%13:=(by rw[uR];exact(MV t 13).symm);revert h1 h2 h3;exact kk.o):=h ⟨k⟩
def Wq(k:Q)(h:KK Q->P:=by intro kk;refine D1 ?_;intro h1;have h2:t%16<16:=lx _ Z;have h3:t=t / 16*16+t%16:=(by rw[uR];exact(MV t 16).symm);revert h1 h2 h3;exact kk.o):=h ⟨k⟩
def W_(k:Q)(h:KK Q->P:=by intro kk;refine rF hK (cF _ (ov.set (p:=(U b 1)) (.inl<|.inr I)<|.slice (fJ g4) (Ws.length+1) kQ)) λai=>?_;refine dN ?_;revert ai;exact kk.o):=h ⟨k⟩
def Y9(h:P:=by refine t.only.trans<|ho.mono ?_;rintro i rfl;exact⟨⟨.inr hp,hx.lt⟩,dP hx hT⟩):=h
def ZN(h:P:=by rw[<-fl];rw[rK<|by simpa [aT] using cY];simp [aT]):=h
def WU(h:P:=by rintro i ⟨h2|h2,h3⟩;(.exact⟨.inl h2,O⟩);exact⟨.inr O,O⟩):=h
def aag(h:P:=by go_enter func192,ntmps192;go_wp2_with fail;apply c.Q;exact Es):=h
def KU(h:P:=by exact⟨tQ,dZ⟩):=h
def ac5(h:P:=by clear h;rintro e w1 ⟨v,L,rfl,hO,jI,hI,hB⟩;go_wp2;go_ret;exact⟨v,L,I,hO,jI,hI,hB⟩):=h
def ado(h:P:=by exact .inl<|.inr ahY):=h
def aaa(h:P:=by go_enter func352,ntmps352;go_wp2_with fail;apply c.Q;exact IA):=h
def abo(h:P:=by rintro e w2 ⟨rfl,dZ⟩;go_wp2;go_ret;exact⟨dO<|by rw[hh.out],hB.aD dZ⟩):=h
def PO(k:Q)(h:KK Q->P:=by intro kk;have ha:(asAddr<|tmps.getD a undef).run P w=.ok (U b 0) w:=(by rw[ht];rfl);revert ha;exact kk.o):=h ⟨k⟩
def aab(h:P:=by exact⟨_,hb.cell j<|by rw[Ji];exact j7 hj⟩):=h
def Si(k:Q)(h:KK Q->P:=by intro kk;refine bj I fo _ _ I _ I jJ p.arr I I ff (kM p) ?_;exact kk.o):=h ⟨k⟩
def SA(k:Q)(h:KK Q->P:=by intro kk;refine bj I fo _ _ I _ I jJ q.arr I I ff (kM q) ?_;exact kk.o):=h ⟨k⟩
def abA(h:P:=by cases ik:cg.toList.isEmpty;(.exact sV);cases aU;(.exact sV);exact sV):=h
def Re(k:Q)(h:KK Q->P:=by intro kk;have cY:=Q' (b:=16) (n:=n) Z<|eP hn Z;revert cY;exact kk.o):=h ⟨k⟩
def Zy(k:Q)(h:KK Q->P:=by intro kk;have T8:=J (show A (w7.setCell (U p0 1)<|.string Y) p0 #[X,Y] VP by simpa using hN7.set 1<|.string Y);revert T8;exact kk.o):=h ⟨k⟩
def I2(k:Q)(h:KK Q->P:=by intro kk;have hl:j<s.data.toList.length:=Tz;revert hl;exact kk.o):=h ⟨k⟩
def amn(h:P:=by clear hp hS eg;rintro e w2 ⟨r,rfl,hr,hB⟩;go_wp2;go_ret;exact⟨aW hr,hB⟩):=h
def aco(h:P:=by refine rD 11 λK hK=>?_;refine Cm ?_;intro ai;refine tK 25 ?_;exact akx):=h
def V4(h:P:=by rintro e w2 ⟨rfl,dZ⟩;go_wp2;go_ret;exact⟨I,pB.trans<|dZ.mono pB.size⟩):=h
def Ib(h:P:=by rw[<-vR.out] at this;exact this):=h
def ack(h:P:=by refine rD 21 λK hK=>?_;refine zx ?_;intro ai;refine tK 22 ?_;exact agM):=h
def QD(h:P:=by have e4:w7.heap.size<=w.heap.size+1:=e2;omega):=h
def aaF(h:P:=by obtain rfl:j=4:=O;go_wp2;go_ret;exact⟨s9<|by rw[<-hq.out],I⟩):=h
def Zq(h:P:=by intro i hi;obtain⟨b,aj,e,hc⟩:=h i hi;exact⟨b,aj,e,hc 0 _ I,hc 1 _ I⟩):=h
def Xn(h:P:=by clear nT zf hca cF;go_wp2;refine bM ?_;exact⟨k+1,O,cJ,hBf⟩):=h
def I4(k:Q)(h:KK Q->P:=by intro kk;have hl:k<s.data.toList.length:=P9;revert hl;exact kk.o):=h ⟨k⟩
def aad(h:P:=by intro w';rw[fS,show k+1=65 - j from O];exact afw _ j O w'):=h
def We(k:Q)(h:KK Q->P:=by intro kk;have h0:=h.cell0;go_enter func224,ntmps224;go_wp2;rw[Lib.run_neq_ptr_same w _ underlying210 hj];go_wp2;go_end0;revert h0;exact kk.o):=h ⟨k⟩
def acp(h:P:=by refine tK 25 ?_;refine rD 3 λK hK=>?_;refine zx ?_;intro ai;exact akx):=h
def ada(h:P:=by rw[d' _ _ _ e3] at hx2;exact h.two i j O O hij x hx hx2):=h
def abn(h:P:=by rintro e w1 ⟨rfl,hB⟩;go_wp2;go_ret;exact⟨dO<|by rw[hh.out];rfl,hB⟩):=h
def ZL(h:P:=by unfold fF;rw[gW h,Ar];simp [hs]):=h
def Sd(h:P:=by exact absurd (hn.symm.trans JJ) hn0):=h
def Xd(h:P:=by rintro i ⟨h2,h3⟩;exact⟨⟨.inl h2,by have:=Xb.bd i h2;omega⟩,h3⟩):=h
def aaY(h:P:=by go_ret;exact⟨_,I,vQ,hBv.grown hg3 hsv λk hk=>by cases hk;exact hbg⟩):=h
def WQ(h:P:=by rintro i ⟨h1,h2⟩;exact⟨⟨.inl h1,by have:=AF.bd i h1;omega⟩,h2⟩):=h
def aaR(k:Q)(h:KK Q->P:=by intro kk;have Nn:T.toList.isEmpty=true:=(by rw[eR,QG];exact VH.1 Gj);revert Nn;exact kk.o):=h ⟨k⟩
def H8(h:P:=by clear H6;exact H4.later hB):=h
def V9(h:P:=by subst hB;rw[h.frozen (p:=(U w i))<|al1 _];simp):=h
def abP(h:P:=by go_wp2;go_ret;exact⟨aW (by rw[hr.out];simp [hp,ht];try omega),abO⟩):=h
def XB(h:P:=by rintro i ⟨h1|h1,_⟩;(.exact h.base i h1);exact de h.low.size h1):=h
def XC(h:P:=by intro y hy;rcases ek.1 (Tj hy) with h1|h1;(.grind);grind):=h
def ET(h:P:=by have hb3:=jf.out;go_grown):=h
def abC(k:Q)(h:KK Q->P:=by intro kk;have hB:=(aL w w).alloc lJ<|Obj.cells #[eo,aF,bl,ah,fz] 41;revert hB;exact kk.o):=h ⟨k⟩
def WV(h:P:=by rintro i rfl;exact⟨⟨.inr O,by have:=adZ.lt;omega⟩,hnt⟩):=h
def L8(h:P:=by simp [lL,cG,oV.arr,vy]):=h
def yL(h:P:=by go_wp2;go_meet;grind):=h
def wK(k:Q)(h:KK Q->P:=by intro kk;refine tK 9 ?_;refine tK 10 ?_;exact kk.o):=h ⟨k⟩
def ac6(h:P:=by clear h;rintro e w1 ⟨v,rfl,hO,hB⟩;go_wp2;go_ret;exact⟨v,I,hO,hB⟩):=h
def AM(h:P:=by exact⟨I,cf⟩):=h
def E4(k:Q)(h:KK Q->P:=by intro kk;apply(xG _ _ _ _ _ hI2 hlq zM).Q;exact kk.o):=h ⟨k⟩
def bM(k:Q)(h:KK Q->P:=by intro kk;go_roundw;(case rel=>exact kk.o);(case measure=>simp[intOf];omega)):=h ⟨k⟩
def vU(k:Q)(h:KK Q->P:=by intro kk;go_round;(case rel=>exact kk.o);(case measure=>simp[intOf];omega)):=h ⟨k⟩
end Go.Proofs.YtkdneaemikbhkaaGreatDoor
