/- Parts of the proof of ScriptRaws. -/
import Derived.Test.YtkghejaimhoboaaGreatDoorPr10
import Derived.Test.YtkghejaimhoboaaGreatDoorPr09
import Derived.Deep.Cut
import Derived.Defers
import Derived.Recover
set_option linter.unusedSimpArgs false
set_option linter.unusedVariables false
set_option maxRecDepth 100000
set_option maxHeartbeats 8000000
namespace Go.Proofs.YtkghejaimhoboaaGreatDoor
open Go.RowKit Go.Shelf Go.Proofs.Tryz
section
attribute [local go_sem] Oper.semAt_some
def stopV(z:Int):Value:=.iface 89 (.agg #[.int .i64 z])
def given(z:Int):List PanicEntry:=[{v:=stopV z,recovered:=false}]
def ends(o:Option Int)(v:Value):Ending:=match o with
 | none=>.returned v
 | some z=>.panicked (given z)
theorem sc_must(b:Bool)(z:Int)(w:World):Calls prog 19 #[.bool b,.int .i64 z] w fun e w'=>e=(if b then .returned (.tuple #[])else .panicked (given z))/\w=w':=by
 cases b with
 |true=>
  go_enter func19,ntmps19;go_wp2
  go_end0
  exact⟨rfl,rfl⟩
 |false=>go_enter func19,ntmps19;go_wp2;exact⟨rfl,rfl,rfl⟩
theorem stop_is(z:Int)(W:World):(Instr.typeAssert (Value.iface 89 (Value.agg #[Value.int IntKind.i64 z])) 20 89 true).run prog W=.ok (.tuple #[.agg #[.int .i64 z],.bool true]) W:=by kernel_rfl
theorem sc_catch(g:Nat)(z:Int)(w:World)(h:Boxed w g 31 (.int .i64 0)):
  CallsD prog 40 #[.pointer (some ⟨g,0,none⟩)] (.panicking (given z)) w fun e u' w'=>e=.returned (.tuple #[])/\u'=.panicking [{v:=stopV z,recovered:=true}]/\Boxed w' g 31 (.int .i64 z)/\Below w.heap.size (w.setCell ⟨g,0,none⟩ (.int .i64 z)) w':=by
 refine callsD_of_wpS func40 rfl fun c₀ cs hu=>?_;simp only[ntmps40,List.size_toArray,List.length_cons,List.length_nil,Nat.reduceAdd,Nat.reduceSub,Array.replicate_succ,Array.replicate_zero,List.push_toArray,List.append_toArray,List.nil_append,List.cons_append];apply wpS_seq;apply wpS_region;simp[wpOpsS,go_sem,recoverD,hu,given,ntmps40,Exit.thenS];refine wpS_of_wp ?_;have h':=h.alloc (.cells #[.int .i64 z] 89);have k0:=h'.cell;have f0:=h'.frozen;have hl:=h.lt;unfold stopV;have hta:=stop_is z;go_wp2;refine⟨rfl,_,rfl,.tuple #[],results_none rfl _ _ _,rfl,rfl,(h.set _).alloc _,bel_refl.alloc (by simp) _⟩
theorem sc_quiet(g:Nat)(w:World):
  CallsD prog 40 #[.pointer (some ⟨g,0,none⟩)] .returning w fun e u' w'=>e=.returned (.tuple #[])/\u'=.returning/\w=w':=by
 refine callsD_of_wpS func40 rfl fun c₀ cs hu=>?_;simp only[ntmps40,List.size_toArray,List.length_cons,List.length_nil,Nat.reduceAdd,Nat.reduceSub,Array.replicate_succ,Array.replicate_zero,List.push_toArray,List.append_toArray,List.nil_append,List.cons_append];apply wpS_seq;apply wpS_region;simp[wpOpsS,go_sem,recoverD,hu,ntmps40,Exit.thenS];refine wpS_of_wp ?_;go_wp2;refine⟨rfl,.returning,by cases c₀;simp_all,.tuple #[],results_none rfl _ _ _,rfl,rfl,rfl⟩
theorem sc_guard(f:FuncId)(cap:Array Value)(R:Option Int->World->Prop)(w:World)(he:∀args W,(callFunc f args).run prog W=.ok (.enter f args) W)
  (h:Calls prog f cap (w.alloc (.cells #[.int .i64 0] 31)) fun e w'=>∃o,e=ends o (.tuple #[])/\R o w'/\Boxed w' w.heap.size 31 (.int .i64 0)):
  Calls prog 17 #[.func (.func f) #[] cap] w fun e w'=>∃o w1,e=.returned (.int .i64 (o.getD 0))/\R o w1/\Below w1.heap.size (w1.setCell ⟨w.heap.size,0,none⟩ (.int .i64 (o.getD 0))) w'/\w.heap.size<w1.heap.size:=by
 have hmf:∀(fn:Fn)(first cap:Array Value)(w:World),(Instr.makeFunc fn first cap).run prog w=.ok (.func fn first cap) w:=fun _ _ _ _=>rfl
 go_enter_defers func17,ntmps17
 go_wp2_with fail
 refine h.mono ?_;rintro e w1 ⟨o,rfl,hR,hb⟩;have hl:=hb.lt;cases o with
 |none=>
  unfold ends;have k0:=hb.cell;have f0:=hb.frozen;go_wp2_with fail
  refine leaves_cons (f:=40) (args:=#[.pointer (some ⟨w.heap.size,0,none⟩)]) (by simp) (by simp[go_sem]) ?_;refine(sc_quiet _ _).mono ?_;rintro e u' w2 ⟨rfl,rfl,rfl⟩;simp only[Leaves,settle];have k1:=(hb.set (.int .i64 0)).cell;refine⟨_,results_cell1 rfl rfl (by simp[go_sem,k1,loadVar]),⟨none,w1,rfl,hR,Below.refl _ _,hl⟩⟩
 |some z=>
  unfold ends;go_wp2_with fail
  refine leaves_cons (f:=40) (args:=#[.pointer (some ⟨w.heap.size,0,none⟩)]) (by simp) (by simp[go_sem]) ?_;refine(sc_catch _ z _ hb).mono ?_;rintro e u' w2 ⟨rfl,rfl,hb2,hbel⟩;simp only[Leaves,settle,List.dropWhile];have k1:=hb2.cell;refine⟨_,results_cell1 rfl rfl (by simp[go_sem,k1,loadVar]),⟨some z,w1,rfl,hR,hbel,hl⟩⟩
end
structure DV where
 vp:Value
 vc:Value
 ps:List PackV
 cs:List ChangeV
def DV.cl(d:DV):List Value:=[d.vp,d.vc]
structure DidsAt (w:World)(base g:Nat)(ds:List DV):Prop where
 blk:Blk w g (ds.flatMap DV.cl).toArray 311
 packs:∀d∈ds,w.ownsRow base 52 24 d.vp d.ps.length (d.ps.flatMap PackV.cells)
 chgs:∀d∈ds,w.ownsRow base 430 10 d.vc d.cs.length (d.cs.flatMap ChangeV.cells)
 len:∀d∈ds,d.ps.length<=1000000/\d.cs.length<=1000000
theorem DidsAt.below{w w':World}{base g:Nat}{ds:List DV}(h:DidsAt w base g ds)(hb:Below w.heap.size w w'):DidsAt w' base g ds:=
 ⟨h.blk.below hb,fun d hd=>ownsRow_below (h.packs d hd) hb,fun d hd=>ownsRow_below (h.chgs d hd) hb,h.len⟩
theorem DV.cllen(d:DV):d.cl.length=2:=rfl
def lvlStep(out:List (List UInt8))(b:UInt8):List (List UInt8):=if b=47 then out++[[]]else out.dropLast++[out.getLast?.getD []++[b]]
def levelsL(s:List UInt8):List (List UInt8):=s.foldl lvlStep [[]]
def splitR:List UInt8->List (List UInt8)
 | []=>[[]]
 | b::l=>if b=47 then[]::splitR l else(b::(splitR l).head?.getD [])::(splitR l).tail
theorem splitR_ne(s:List UInt8):splitR s≠[]:=by
 cases s with
 | nil=>simp[splitR]
 | cons b l=>unfold splitR;split<;>simp
theorem splitK_R:∀(s:List UInt8),Lib.splitK [47] 0 (Lib.count s [47]) s=splitR s:=by
 intro s;rw[Lib.count_one];induction s with
 | nil=>rfl
 | cons b l ih=>
  by_cases hb:b=47
  ·subst hb;rw[List.count_cons_self];unfold Lib.splitK splitR;have hi:Lib.index ((47:UInt8)::l) [47]=0:=by rw[Lib.index_one];simp[Lib.indexByte]
   rw[if_pos rfl,hi,if_neg (by decide)];simp only[Int.toNat_zero,Nat.zero_add,List.length_cons,List.length_nil,List.take_zero,List.drop_succ_cons,List.drop_zero];rw[ih]
  rw[List.count_cons_of_ne (by simpa using hb)];have hR:splitR (b::l)=(b::(splitR l).head?.getD [])::(splitR l).tail:=by rw[splitR,if_neg hb]
  rw[hR,<-ih];generalize l.count 47=k;have hi:Lib.index (b::l) [47]=if Lib.index l [47]== -1 then -1 else Lib.index l [47]+1:=by rw[Lib.index_one,Lib.index_one,Lib.indexByte];simp only[hb,beq_iff_eq,if_false]
  cases k with
  | zero=>rfl
  | succ k=>
   unfold Lib.splitK;rw[hi];by_cases h1:Lib.index l [47]= -1
   ·simp[h1]
   have hge:0<=Lib.index l [47]:=by rw[Lib.index_one]at h1 ⊢;have:=Lib.indexByte_ge l 47;omega
   have e1:(Lib.index l [47]== -1)=false:=by simpa using h1
   have e2:(Lib.index l [47]+1== -1)=false:=by simp;omega
   have e3:(Lib.index l [47]+1).toNat=(Lib.index l [47]).toNat+1:=by omega
   simp only[e1,e2,e3,Bool.false_eq_true,if_false,List.head?_cons,Option.getD_some,List.tail_cons,Nat.add_zero,List.take_succ_cons,List.length_cons,List.length_nil];rw[show(Lib.index l [47]).toNat+1+(0+1)=((Lib.index l [47]).toNat+(0+1))+1 by omega,List.drop_succ_cons]
theorem fold_R:∀(s:List UInt8)(pre:List (List UInt8))(x:List UInt8),s.foldl lvlStep (pre++[x])=pre++(x++(splitR s).head?.getD [])::(splitR s).tail:=by
 intro s;induction s with
 | nil=>intro pre x;simp[splitR]
 | cons b l ih=>
  intro pre x;rw[List.foldl_cons];by_cases hb:b=47
  ·rw[show lvlStep (pre++[x]) b=(pre++[x])++[[]] by unfold lvlStep;rw[if_pos hb],ih,splitR,if_pos hb];obtain⟨y,ys,hy⟩:=List.exists_cons_of_ne_nil (splitR_ne l);simp[hy]
  rw[show lvlStep (pre++[x]) b=pre++[x++[b]] by unfold lvlStep;rw[if_neg hb,List.dropLast_concat,List.getLast?_concat];rfl,ih,splitR,if_neg hb];simp
theorem levelsL_eq(s:List UInt8):(levelsB s).map (·.data.toList)=levelsL s:=by unfold levelsB levelsL;have h:=Lib.splitB_data ⟨#[47]⟩ 0 (Lib.countB ⟨s.toArray⟩ ⟨#[47]⟩) ⟨s.toArray⟩;rw[h];show Lib.splitK [47] 0 (Lib.count s [47]) s=_;rw[splitK_R];have:=fold_R s [] [];rw[List.nil_append]at this;rw[this];obtain⟨y,ys,hy⟩:=List.exists_cons_of_ne_nil (splitR_ne s);simp[hy]
theorem levelsL_take(s:List UInt8)(k:Nat)(b:UInt8)(h:s[k]?=some b):levelsL (s.take (k+1))=lvlStep (levelsL (s.take k)) b:=by unfold levelsL;rw[List.take_add_one,h,Option.toList_some,List.foldl_append];rfl
theorem levelsL_ne(s:List UInt8):levelsL s≠[]:=by rw[<-levelsL_eq];have:=fold_R s [] [];intro h;rw[levelsL_eq]at h;unfold levelsL at h;rw[List.nil_append]at this;rw[this]at h;simp at h
theorem levelsL_bound(s:List UInt8):(levelsL s).length<=s.length+1/\∀x∈levelsL s,x.length<=s.length:=by rw[<-levelsL_eq];refine⟨by simpa using levelsB_len s,fun x hx=>?_⟩;obtain⟨y,hy,rfl⟩:=List.mem_map.1 hx;exact levelsB_size s y hy
theorem lvl_L(s:List UInt8)(k:Nat)(hk:k<(levelsB s).length):(levelsL s)[k]?=some (lvl (levelsB s) k).data.toList:=by rw[<-levelsL_eq,List.getElem?_map];unfold lvl;rw[List.getElem?_eq_getElem hk];rfl
theorem r13_Levels(s:List UInt8)(w:World)(hs:s.length<=1000000):
  Calls prog 182 #[.string ⟨s.toArray⟩] w fun e w'=>∃v,e=.returned v/\w'.ownsRow w.heap.size 9 1 v (levelsL s).length ((levelsL s).map wStr)/\Below w.heap.size w w':=by
 have hsz:ByteArray.size ⟨s.toArray⟩=s.length:=by simp[ByteArray.size]
 have h0:Hid ((w.alloc (.cells #[.string ⟨#[]⟩] 9)).ownsRow w.heap.size 9 1 (.slice (some ⟨w.heap.size,0,none⟩) 1 1) (levelsL (s.take 0)).length ((levelsL (s.take 0)).map wStr)):=hid (World.ownsRow_lit w #[.string ⟨#[]⟩] 1 nat_le_rfl (by decide) rfl);have hb0:=hid ((Below.refl w.heap.size w).alloc nat_le_rfl (.cells #[.string ⟨#[]⟩] 9));go_enter func182,ntmps182;go_wp2;go_loopw [3,4] (fun v i wr=>∃k:Nat,i=.int .i64 k/\k<=s.length/\Hid (wr.ownsRow w.heap.size 9 1 v (levelsL (s.take k)).length ((levelsL (s.take k)).map wStr))/\Hid (Below w.heap.size w wr)) (fun _ i _=>s.length-(intOf i).toNat)
 case atStart=>exact⟨0,rfl,Nat.zero_le _,h0,hb0⟩
 case round=>
  obtain⟨k,rfl,hk,hr,hb⟩:=hrel;rcases Nat.lt_or_ge k s.length with hlt | hge
  ·have dk:decide ((k:Int)<(s.length:Int))=true:=decide_eq_true (by omega);obtain⟨b,hsb⟩:∃b,s[k]?=some b:=⟨_,List.getElem?_eq_getElem hlt⟩;have hstep:=levelsL_take s k b hsb;have hbd:=levelsL_bound (s.take k);have hne:=levelsL_ne (s.take k);obtain⟨a,c,hv⟩:=own_slice hr.out;subst hv;have hix:∀h,(⟨s.toArray⟩:ByteArray)[k]'h=b:=fun h=>by have:s[k]'hlt=b:=(List.getElem?_eq_some_iff.1 hsb).2;exact this
   have hbl:=hbd.1;rw[List.length_take]at hbl;have hstep:=hid hstep;have hne:=hid hne;have hbx:=hid hbd.2;have hsz:=hid hsz;clear hbd;obtain⟨ls,hls⟩:=gen_of (levelsL (s.take k));rw[hls]at hr hbl hstep hne hbx ⊢;have hls:=hid hls;by_cases h47:b=47
   ·have e1:(((b.toNat:Nat):Int)==47)=true:=by rw[h47];rfl
    go_wp2_with (at_builtin;refine append_grp rfl _ _ rfl eStr (by decide) w.heap.size _ _ _ rfl (ownsRow_below hr.out ((Below.refl wr.heap.size wr).alloc nat_le_rfl (.cells #[.string ⟨#[]⟩] 9))) wr.heap.size [.string ⟨#[]⟩] 9 rfl (Blk.new wr _ _) rfl (by simp[Value.oneCell']) (by omega) (by omega) (by have:=hb.out.size;simp;omega) ?_;intro v4 w4 r4 g4 n4;have r4:=hid r4;have hb4:=hid ((hb.out.alloc hb.out.size (.cells #[.string ⟨#[]⟩] 9)).grown g4 (by have:=hb.out.size;simp;omega) (fun j e=>(hr.out.lt j e).1)))
    go_roundw
    case rel=>refine⟨k+1,by go_num,by omega,?_,hb4⟩;rw[hstep.out];unfold lvlStep;rw[if_pos h47];exact hid (by simpa[wStr]using r4.out)
    case measure=>simp[intOf];omega
   have e1:(((b.toNat:Nat):Int)==47)=false:=by rw[beq_eq_false_iff_ne];intro h;exact h47 (UInt8.toNat_inj.1 (show b.toNat=47 by omega))
   obtain⟨pre,x,hpx⟩:∃pre x,ls=pre++[x]:=⟨ls.dropLast,ls.getLast hne.out,(List.dropLast_concat_getLast hne.out).symm⟩;subst hpx;obtain⟨m,hm⟩:=gen_of pre.length;have hlen:(pre++[x]).length=m+1:=by simp[hm]
   rw[hlen]at hr hbl ⊢;obtain⟨_,_,hve,hvc⟩:=own_cell hr.out;obtain⟨rfl,rfl⟩:a=_/\c=_:=by simpa using hve
   obtain⟨g,hag,hcg⟩:=hvc m (wStr x) (by simp[hm]);subst hag;have hxl:x.length<=1000000:=by have:=hbx x (by simp);rw[List.length_take]at this;omega
   have hov:¬9223372036854775807<x.length+(min (k+1) s.length-k):=by omega
   have hcat:(⟨x.toArray⟩:ByteArray)++(⟨s.toArray⟩:ByteArray).extract k (k+1)=⟨(x++[b]).toArray⟩:=by
    have he:(⟨s.toArray⟩:ByteArray).extract k (k+1)=⟨[b].toArray⟩:=by
     have h1:s.extract k (k+1)=[b]:=by rw[List.extract_eq_take_drop];have h2:=(List.getElem?_eq_some_iff.1 hsb).2;rw[show k+1-k=1 by omega,List.drop_eq_getElem_cons hlt,h2];rfl
     apply ByteArray.ext;simp[ByteArray.data_extract,h1]
    rw[he,str_app]
   have hst1:=hid (hr.out.stored m (.string ⟨(x++[b]).toArray⟩));have hfz:wr.frozen? ⟨g,m,none⟩=false:=hr.out.frozenAt m;replace hcg:wr.cell? ⟨g,m,none⟩=some (.string ⟨x.toArray⟩):=hcg;have hgl:w.heap.size<=g:=(hr.out.lt g rfl).1;clear hve hvc hlen;go_wp2_with fail;refine regionQ [(17,fun w'=>w'.cell? ⟨g,m,none⟩=some (.string ⟨x.toArray⟩))] (by kernel_rfl) ⟨by go_simp,trivial⟩ fun KQ hKQ=>?_;refine tQ [0,1,2,3,4,5,6,7,8] ?_;refine loadQ 9 rfl (by kernel_rfl) (by kernel_rfl) rfl rfl 0 rfl (by kernel_rfl) (.string ⟨x.toArray⟩) (fun w' hf=>by(go_simp<;>with_reducible rfl)) ?_;simp only[PT];refine tQ [10,11,12,13,14,15] ?_;refine tQ [16] ?_;refine sQ 17 fun K hK=>?_;simp only[GO];go_simp;refine hK _ _ ⟨⟨(fun h=>by cases h),trivial⟩,?_⟩;clear hK K;refine dQ (hKQ.out _ _ ?_);clear hKQ KQ;go_wp2_with fail;go_roundw
   case rel=>
    have hB1:=Below.setCell hb.out (p:=⟨g,m,none⟩) hgl (.string ⟨(x++[b]).toArray⟩);refine⟨k+1,by go_num,by omega,?_,hid hB1.drew⟩;rw[hstep.out];unfold lvlStep;rw[if_neg h47,List.dropLast_concat,List.getLast?_concat];have h2:=ownsRow_below hst1.1 (bel_refl.drew);have e2:(List.map wStr (pre++[x])).set m (.string ⟨(x++[b]).toArray⟩)=List.map wStr (pre++[x++[b]]):=by rw[<-hm];simp[wStr]
    rw[e2]at h2;have e3:(pre++[(some x).getD []++[b]]).length=m+1:=by simp[hm]
    rw[e3];exact hid h2
   case measure=>simp[intOf];omega
  obtain rfl:k=s.length:=by omega
  have dk:decide ((s.length:Int)<(s.length:Int))=false:=by simp
  rw[List.take_length]at hr;go_wp2;go_ret;exact⟨_,rfl,hr.out,hb.out⟩
theorem r13_Filter2(s:List UInt8)(w:World)(hs:s.length<=2000000):
  Calls prog 116 #[.string ⟨s.toArray⟩] w fun e w'=>e=.returned (.bool (filterR s))/\Below w.heap.size w w':=by
 have CD:=hid fun W=>r13_said2 s W hs;rcases hsd:saidR s with _ | _
 ·rw[hsd]at CD;have hF:filterR s=false:=by unfold filterR;rw[hsd,Bool.and_false]
  have hF:=hid hF;go_enter func116,ntmps116;go_wp2_with (go_at_call 180;refine(CD _).mono ?_;rintro e w1 ⟨rfl,hb1⟩)
  go_ret;exact⟨by rw[hF.out];rfl,hb1⟩
 rw[hsd]at CD;have CL:=hid fun W=>r13_Levels s W (by have h9:=hsd;unfold saidR at h9;simp at h9;omega);have hF:filterR s=filterL (levelsB s) (levelsB s).length:=by unfold filterR;rw[hsd,Bool.and_true]
 rw[hF];have hlb:=levelsB_len s;have hleq:=congrArg List.length (levelsL_eq s);rw[List.length_map]at hleq;have hget:=lvl_L s;have hbd:=levelsL_bound s;obtain⟨ps,hps⟩:=gen_of (levelsB s);rw[hps]at hleq hget hlb ⊢;obtain⟨n,hn⟩:=gen_of ps.length;rw[hn]at hleq hget hlb ⊢;obtain⟨ls,hls⟩:=gen_of (levelsL s);rw[hls]at hleq hget hbd CL;have hget:=hid hget;have hbd:=hid hbd.2;have hn0:=hid hn;replace hleq:=hid hleq.symm;clear hF hsd hps hls hn;go_enter func116,ntmps116;go_wp2_with (first
  | (go_at_call 180;refine(CD _).mono ?_;rintro e w1 ⟨rfl,hb1⟩)
  | (go_at_call 182;refine(CL _).mono ?_;rintro e w2 ⟨v,rfl,hr2,hb2⟩))
 rw[hleq.out]at hr2;have hr0:=hid (ownsRow_mono (base':=w.heap.size) hr2 hb1.size);have hb0:=hid (hb1.trans (hb2.mono hb1.size));obtain⟨a,c,rfl⟩:=own_slice hr2;clear hb1 hb2 hr2;go_loopw [4] (fun i wr=>∃k:Nat,i=.int .i64 k/\k<=n/\filterL ps k=true/\Hid (wr.ownsRow w.heap.size 9 1 (.slice a n c) n (ls.map wStr))/\Hid (Below w.heap.size w wr)) (fun i _=>n-(intOf i).toNat)
 case atStart=>exact⟨0,rfl,Nat.zero_le _,rfl,hr0,hb0⟩
 case round=>
  obtain⟨k,rfl,hk,hfk,hr,hb⟩:=hrel;rcases Nat.lt_or_ge k n with hlt | hge
  ·have dk:decide ((k:Int)<(n:Int))=true:=decide_eq_true (by omega);have hg:=hget k hlt;obtain⟨l,hl⟩:=gen_of ((lvl ps k).data.toList);have hll:=hbd l (by rw[<-hl];exact List.mem_of_getElem? hg);have hsucc:=filterL_succ ps k;have hbad:=filterL_bad ps k n hlt;rw[hl]at hg hsucc hbad;rw[hn0.out,hfk,Bool.true_and]at hsucc;rw[hn0.out]at hbad;have hsg:=signs_any l;have CS:=hid fun W=>r13_signs l W (by omega);obtain⟨_,_,hve,hvc⟩:=own_cell hr.out;obtain⟨rfl,rfl⟩:a=_/\c=_:=by simpa using hve
   obtain⟨g,hag,hcg⟩:=hvc k (wStr l) (by rw[List.getElem?_map,hg];rfl);subst hag;unfold wStr at hcg;obtain⟨x,hx⟩:=gen_of ((⟨l.toArray⟩:ByteArray):ByteArray);rw[hx]at hcg CS;obtain⟨bl,hbl⟩:=gen_of (decide (k+1=n));obtain⟨ba,hba⟩:=gen_of (anyR l);obtain⟨b1',hb1⟩:=gen_of (decide (l=[43]));obtain⟨b2',hb2⟩:=gen_of (decide (l=[35]));have e1:b1'=true↔x=⟨#[43]⟩:=by rw[<-hb1,<-hx];simp
   have e2:b2'=true↔x=⟨#[35]⟩:=by rw[<-hb2,<-hx];simp
   unfold lvlOK at hsucc hbad;simp only[hbl,hba,hb1,hb2]at hsucc hbad hsg;obtain⟨sg,hsgv⟩:=gen_of (signsR l);rw[hsgv]at hsg CS;obtain⟨sz,hsz⟩:=gen_of (((sg:Nat):Int):Int);have hsz0:0<=sz:=by omega
   have hsg:(sz=0)↔(ba=false):=by rw[<-hsz];cases ba<;>simp at hsg ⊢<;>omega
   rw[hsz]at CS;clear hsz hsgv;have hlast:((k:Int)==(n:Int)-1)=bl:=by rw[<-hbl,Bool.eq_iff_iff];simp;omega
   clear hb1 hb2 hba hbl hve hvc hx hg hl hll;have hsucc:=hid hsucc;have hbad:=hid hbad;rcases ba with _ | _
   ·have dsg:decide (0<sz)=false:=decide_eq_false (by have:=hsg.2 rfl;omega);clear hsg e1 e2;go_wp2_with (go_at_call 181;refine(CS _).mono ?_;rintro e w3 ⟨rfl,rfl⟩);go_roundw
    case rel=>exact⟨k+1,by go_num,by omega,by rw[hsucc.out];simp,hr,hb⟩
    case measure=>simp[intOf];omega
   have dsg:decide (0<sz)=true:=decide_eq_true (by have h0:sz≠0:=fun h=>Bool.noConfusion (hsg.1 h);omega);clear hsg;rcases b1' with _ | _
   ·have h1:¬x=⟨#[43]⟩:=fun h=>by have:=e1.2 h;cases this
    have i1:¬x.toList=[43]:=fun h=>h1 (toList_inj (by rw[h];exact(ByteArray.toList_mk [43]).symm));have g1':(x.toList==[43])=false:=by simpa using i1
    rcases b2' with _ | _
    ·have h2:¬x=⟨#[35]⟩:=fun h=>by have:=e2.2 h;cases this
     have i2:¬x.toList=[35]:=fun h=>h2 (toList_inj (by rw[h];exact(ByteArray.toList_mk [35]).symm));have g2':(x.toList==[35])=false:=by simpa using i2
     clear e1 e2;go_wp2_with (go_at_call 181;refine(CS _).mono ?_;rintro e w3 ⟨rfl,rfl⟩);go_ret;exact⟨by rw[hbad rfl];rfl,hb.out⟩
    have h2:=e2.1 rfl;clear e1 e2 h1 i1 g1';subst h2;rcases bl with _ | _
    ·go_wp2_with (go_at_call 181;refine(CS _).mono ?_;rintro e w3 ⟨rfl,rfl⟩)
     go_ret;exact⟨by rw[hbad rfl];rfl,hb.out⟩
    skip;go_wp2_with (go_at_call 181;refine(CS _).mono ?_;rintro e w3 ⟨rfl,rfl⟩)
    go_roundw
    case rel=>exact⟨k+1,by go_num,by omega,by rw[hsucc.out];simp,hr,hb⟩
    case measure=>simp[intOf];omega
   have h1:=e1.1 rfl;clear e1 e2;subst h1;go_wp2_with (go_at_call 181;refine(CS _).mono ?_;rintro e w3 ⟨rfl,rfl⟩);go_roundw
   case rel=>exact⟨k+1,by go_num,by omega,by rw[hsucc.out];simp,hr,hb⟩
   case measure=>simp[intOf];omega
  obtain rfl:k=n:=by omega
  have dk:decide ((k:Int)<(k:Int))=false:=by simp
  go_wp2;go_ret;exact⟨by rw[hfk];rfl,hb.out⟩
end Go.Proofs.YtkghejaimhoboaaGreatDoor
