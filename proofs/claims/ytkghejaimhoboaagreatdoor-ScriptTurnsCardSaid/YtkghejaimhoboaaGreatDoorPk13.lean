/- Parts of the proof of ScriptTurns. -/
import Derived.Test.YtkghejaimhoboaaGreatDoorPk10
import Derived.Test.YtkghejaimhoboaaGreatDoorPk09
import Derived.Deep.Cut
import Derived.Defers
import Derived.Recover
set_option linter.unusedSimpArgs false
set_option linter.unusedVariables false
set_option maxRecDepth 100000
set_option maxHeartbeats 8000000
namespace Go.Proofs.YtkghejaimhoboaaGreatDoor
open Go.RowKit Go.Shelf Go.Proofs.Tryz
section
attribute [local go_sem] Oper.semAt_some
def Kt(z:Int):Value:=.iface 89 (.agg #[.int .i64 z])
def given(z:Int):List PanicEntry:=[{v:=Kt z,recovered:=false}]
def ends(o:Option Int)(v:Value):Ending:=match o with
 | none=>.returned v
 | some z=>.panicked (given z)
theorem lX(b:Bool)(z:Int)(w:World):Calls prog 19 #[.bool b,.int .i64 z] w fun e w'=>e=(if b then .returned (.tuple #[])else .panicked (given z))/\w=w':=by
 cases b with
 |true=>
  go_enter func19,ntmps19;go_wp2
  go_end0
  exact⟨rfl,rfl⟩
 |false=>go_enter func19,ntmps19;go_wp2;exact⟨rfl,rfl,rfl⟩
theorem Oe(z:Int)(W:World):(Instr.typeAssert (Value.iface 89 (Value.agg #[Value.int IntKind.i64 z])) 20 89 true).run prog W=.ok (.tuple #[.agg #[.int .i64 z],.bool true]) W:=by kernel_rfl
theorem Ku(g:Nat)(z:Int)(w:World)(h:Boxed w g 31 (.int .i64 0)):
  CallsD prog 40 #[.pointer (some ⟨g,0,none⟩)] (.panicking (given z)) w fun e u' w'=>e=.returned (.tuple #[])/\u'=.panicking [{v:=Kt z,recovered:=true}]/\Boxed w' g 31 (.int .i64 z)/\Below w.heap.size (w.setCell ⟨g,0,none⟩ (.int .i64 z)) w':=by
 refine callsD_of_wpS func40 rfl fun c₀ cs hu=>?_;simp only[ntmps40,List.size_toArray,List.length_cons,List.length_nil,Nat.reduceAdd,Nat.reduceSub,Array.replicate_succ,Array.replicate_zero,List.push_toArray,List.append_toArray,List.nil_append,List.cons_append];apply wpS_seq;apply wpS_region;simp[wpOpsS,go_sem,recoverD,hu,given,ntmps40,Exit.thenS];refine wpS_of_wp ?_;have h':=h.alloc (.cells #[.int .i64 z] 89);have k0:=h'.cell;have f0:=h'.frozen;have hl:=h.lt;unfold Kt;have hta:=Oe z;go_wp2;refine⟨rfl,_,rfl,.tuple #[],results_none rfl _ _ _,rfl,rfl,(h.set _).alloc _,ai.alloc (by simp) _⟩
theorem Kv(g:Nat)(w:World):
  CallsD prog 40 #[.pointer (some ⟨g,0,none⟩)] .returning w fun e u' w'=>e=.returned (.tuple #[])/\u'=.returning/\w=w':=by
 refine callsD_of_wpS func40 rfl fun c₀ cs hu=>?_;simp only[ntmps40,List.size_toArray,List.length_cons,List.length_nil,Nat.reduceAdd,Nat.reduceSub,Array.replicate_succ,Array.replicate_zero,List.push_toArray,List.append_toArray,List.nil_append,List.cons_append];apply wpS_seq;apply wpS_region;simp[wpOpsS,go_sem,recoverD,hu,ntmps40,Exit.thenS];refine wpS_of_wp ?_;go_wp2;refine⟨rfl,.returning,by cases c₀;simp_all,.tuple #[],results_none rfl _ _ _,rfl,rfl,rfl⟩
theorem Ad(f:FuncId)(cap:Array Value)(R:Option Int->World->Prop)(w:World)(he:∀args W,(callFunc f args).run prog W=.ok (.enter f args) W)
  (h:Calls prog f cap (w.alloc (.cells #[.int .i64 0] 31)) fun e w'=>∃o,e=ends o (.tuple #[])/\R o w'/\Boxed w' w.heap.size 31 (.int .i64 0)):
  Calls prog 17 #[.func (.func f) #[] cap] w fun e w'=>∃o w1,e=.returned (.int .i64 (o.getD 0))/\R o w1/\Below w1.heap.size (w1.setCell ⟨w.heap.size,0,none⟩ (.int .i64 (o.getD 0))) w'/\w.heap.size<w1.heap.size:=by
 have wA:∀(fn:Fn)(first cap:Array Value)(w:World),(Instr.makeFunc fn first cap).run prog w=.ok (.func fn first cap) w:=fun _ _ _ _=>rfl
 go_enter_defers func17,ntmps17
 go_wp2_with fail
 refine h.mono ?_;rintro e w1 ⟨o,rfl,hR,hb⟩;have hl:=hb.lt;cases o with
 |none=>
  unfold ends;have k0:=hb.cell;have f0:=hb.frozen;go_wp2_with fail
  refine leaves_cons (f:=40) (args:=#[.pointer (some ⟨w.heap.size,0,none⟩)]) (by simp) (by simp[go_sem]) ?_;refine(Kv _ _).mono ?_;rintro e u' w2 ⟨rfl,rfl,rfl⟩;simp only[Leaves,settle];have k1:=(hb.set (.int .i64 0)).cell;refine⟨_,aJ rfl rfl (by simp[go_sem,k1,loadVar]),⟨none,w1,rfl,hR,Below.refl _ _,hl⟩⟩
 |some z=>
  unfold ends;go_wp2_with fail
  refine leaves_cons (f:=40) (args:=#[.pointer (some ⟨w.heap.size,0,none⟩)]) (by simp) (by simp[go_sem]) ?_;refine(Ku _ z _ hb).mono ?_;rintro e u' w2 ⟨rfl,rfl,hb2,bK⟩;simp only[Leaves,settle,List.dropWhile];have k1:=hb2.cell;refine⟨_,aJ rfl rfl (by simp[go_sem,k1,loadVar]),⟨some z,w1,rfl,hR,bK,hl⟩⟩
end
def jk(out:List (List UInt8))(b:UInt8):List (List UInt8):=if b=47 then out++[[]]else out.dropLast++[out.getLast?.getD []++[b]]
def dO(s:List UInt8):List (List UInt8):=s.foldl jk [[]]
def fx:List UInt8->List (List UInt8)
 | []=>[[]]
 | b::l=>if b=47 then[]::fx l else(b::(fx l).head?.getD [])::(fx l).tail
theorem xu(s:List UInt8):fx s≠[]:=by
 cases s with
 | nil=>simp[fx]
 | cons b l=>unfold fx;split<;>simp
theorem Kw:∀(s:List UInt8),Lib.splitK [47] 0 (Lib.count s [47]) s=fx s:=by
 intro s;rw[Lib.count_one];induction s with
 | nil=>rfl
 | cons b l ih=>
  by_cases hb:b=47
  ·subst hb;rw[List.count_cons_self];unfold Lib.splitK fx;have hi:Lib.index ((47:UInt8)::l) [47]=0:=by rw[Lib.index_one];simp[Lib.indexByte]
   rw[if_pos rfl,hi,if_neg (by decide)];simp only[Int.toNat_zero,Nat.zero_add,List.length_cons,List.length_nil,List.take_zero,List.drop_succ_cons,List.drop_zero];rw[ih]
  rw[List.count_cons_of_ne (by simpa using hb)];have hR:fx (b::l)=(b::(fx l).head?.getD [])::(fx l).tail:=by rw[fx,if_neg hb]
  rw[hR,<-ih];generalize l.count 47=k;have hi:Lib.index (b::l) [47]=if Lib.index l [47]== -1 then -1 else Lib.index l [47]+1:=by rw[Lib.index_one,Lib.index_one,Lib.indexByte];simp only[hb,beq_iff_eq,if_false]
  cases k with
  | zero=>rfl
  | succ k=>
   unfold Lib.splitK;rw[hi];by_cases h1:Lib.index l [47]= -1
   ·simp[h1]
   have jw:0<=Lib.index l [47]:=by rw[Lib.index_one]at h1 ⊢;have:=Lib.indexByte_ge l 47;omega
   have e1:(Lib.index l [47]== -1)=false:=by simpa using h1
   have e2:(Lib.index l [47]+1== -1)=false:=by simp;omega
   have e3:(Lib.index l [47]+1).toNat=(Lib.index l [47]).toNat+1:=by omega
   simp only[e1,e2,e3,Bool.false_eq_true,if_false,List.head?_cons,Option.getD_some,List.tail_cons,Nat.add_zero,List.take_succ_cons,List.length_cons,List.length_nil];rw[show(Lib.index l [47]).toNat+1+(0+1)=((Lib.index l [47]).toNat+(0+1))+1 by omega,List.drop_succ_cons]
theorem Ky:∀(s:List UInt8)(pre:List (List UInt8))(x:List UInt8),s.foldl jk (pre++[x])=pre++(x++(fx s).head?.getD [])::(fx s).tail:=by
 intro s;induction s with
 | nil=>intro pre x;simp[fx]
 | cons b l ih=>
  intro pre x;rw[List.foldl_cons];by_cases hb:b=47
  ·rw[show jk (pre++[x]) b=(pre++[x])++[[]] by unfold jk;rw[if_pos hb],ih,fx,if_pos hb];obtain⟨y,ys,hy⟩:=List.exists_cons_of_ne_nil (xu l);simp[hy]
  rw[show jk (pre++[x]) b=pre++[x++[b]] by unfold jk;rw[if_neg hb,List.dropLast_concat,List.getLast?_concat];rfl,ih,fx,if_neg hb];simp
theorem jN(s:List UInt8):(cO s).map (·.data.toList)=dO s:=by unfold cO dO;have h:=Lib.splitB_data ⟨#[47]⟩ 0 (Lib.countB ⟨s.toArray⟩ ⟨#[47]⟩) ⟨s.toArray⟩;rw[h];show Lib.splitK [47] 0 (Lib.count s [47]) s=_;rw[Kw];have:=Ky s [] [];rw[List.nil_append]at this;rw[this];obtain⟨y,ys,hy⟩:=List.exists_cons_of_ne_nil (xu s);simp[hy]
theorem yu(s:List UInt8)(k:Nat)(b:UInt8)(h:s[k]?=some b):dO (s.take (k+1))=jk (dO (s.take k)) b:=by unfold dO;rw[List.take_add_one,h,Option.toList_some,List.foldl_append];rfl
theorem Dp(s:List UInt8):dO s≠[]:=by rw[<-jN];have:=Ky s [] [];intro h;rw[jN]at h;unfold dO at h;rw[List.nil_append]at this;rw[this]at h;simp at h
theorem oI(s:List UInt8):(dO s).length<=s.length+1/\∀x∈dO s,x.length<=s.length:=by rw[<-jN];refine⟨by simpa using mV s,fun x hx=>?_⟩;obtain⟨y,hy,rfl⟩:=List.mem_map.1 hx;exact qj s y hy
theorem V9(s:List UInt8)(k:Nat)(hk:k<(cO s).length):(dO s)[k]?=some (lvl (cO s) k).data.toList:=by rw[<-jN,List.getElem?_map];unfold lvl;rw[List.getElem?_eq_getElem hk];rfl
theorem Dq(s:List UInt8)(w:World)(hs:s.length<=1000000):
  Calls prog 182 #[.string ⟨s.toArray⟩] w fun e w'=>∃v,e=.returned v/\w'.ownsRow w.heap.size 9 1 v (dO s).length ((dO s).map uL)/\Below w.heap.size w w':=by
 have hsz:ByteArray.size ⟨s.toArray⟩=s.length:=by simp[ByteArray.size]
 have h0:Hid ((w.alloc (.cells #[.string ⟨#[]⟩] 9)).ownsRow w.heap.size 9 1 (.slice (some ⟨w.heap.size,0,none⟩) 1 1) (dO (s.take 0)).length ((dO (s.take 0)).map uL)):=af (World.ownsRow_lit w #[.string ⟨#[]⟩] 1 ah (by decide) rfl);have hb0:=af ((Below.refl w.heap.size w).alloc ah (.cells #[.string ⟨#[]⟩] 9));go_enter func182,ntmps182;go_wp2;go_loopw [3,4] (fun v i wr=>∃k:Nat,i=.int .i64 k/\k<=s.length/\Hid (wr.ownsRow w.heap.size 9 1 v (dO (s.take k)).length ((dO (s.take k)).map uL))/\Hid (Below w.heap.size w wr)) (fun _ i _=>s.length-(intOf i).toNat)
 case atStart=>exact⟨0,rfl,Nat.zero_le _,h0,hb0⟩
 case round=>
  obtain⟨k,rfl,hk,hr,hb⟩:=hrel;rcases Nat.lt_or_ge k s.length with hlt | jw
  ·have dk:decide ((k:Int)<(s.length:Int))=true:=decide_eq_true (by omega);obtain⟨b,eD⟩:∃b,s[k]?=some b:=⟨_,List.getElem?_eq_getElem hlt⟩;have hstep:=yu s k b eD;have jL:=oI (s.take k);have hne:=Dp (s.take k);obtain⟨a,c,hv⟩:=aA hr.out;subst hv;have Rz:∀h,(⟨s.toArray⟩:ByteArray)[k]'h=b:=fun h=>by have:s[k]'hlt=b:=(List.getElem?_eq_some_iff.1 eD).2;exact this
   have hbl:=jL.1;rw[List.length_take]at hbl;have hstep:=af hstep;have hne:=af hne;have kI:=af jL.2;have hsz:=af hsz;clear jL;obtain⟨ls,xw⟩:=ae (dO (s.take k));rw[xw]at hr hbl hstep hne kI ⊢;have xw:=af xw;by_cases Zj:b=47
   ·have e1:(((b.toNat:Nat):Int)==47)=true:=by rw[Zj];rfl
    go_wp2_with (at_builtin;refine jM rfl _ _ rfl N7 (by decide) w.heap.size _ _ _ rfl (aB hr.out ((Below.refl wr.heap.size wr).alloc ah (.cells #[.string ⟨#[]⟩] 9))) wr.heap.size [.string ⟨#[]⟩] 9 rfl (ar.new wr _ _) rfl (by simp[Value.oneCell']) (by omega) (by omega) (by have:=hb.out.size;simp;omega) ?_;intro v4 w4 r4 g4 n4;have r4:=af r4;have hb4:=af ((hb.out.alloc hb.out.size (.cells #[.string ⟨#[]⟩] 9)).grown g4 (by have:=hb.out.size;simp;omega) (fun j e=>(hr.out.lt j e).1)))
    go_roundw
    case rel=>refine⟨k+1,by go_num,by omega,?_,hb4⟩;rw[hstep.out];unfold jk;rw[if_pos Zj];exact af (by simpa[uL]using r4.out)
    case measure=>simp[intOf];omega
   have e1:(((b.toNat:Nat):Int)==47)=false:=by rw[beq_eq_false_iff_ne];intro h;exact Zj (UInt8.toNat_inj.1 (show b.toNat=47 by omega))
   obtain⟨pre,x,hpx⟩:∃pre x,ls=pre++[x]:=⟨ls.dropLast,ls.getLast hne.out,(List.dropLast_concat_getLast hne.out).symm⟩;subst hpx;obtain⟨m,hm⟩:=ae pre.length;have hlen:(pre++[x]).length=m+1:=by simp[hm]
   rw[hlen]at hr hbl ⊢;obtain⟨_,_,Wb,Wc⟩:=z8 hr.out;obtain⟨rfl,rfl⟩:a=_/\c=_:=by simpa using Wb
   obtain⟨g,hag,Wd⟩:=Wc m (uL x) (by simp[hm]);subst hag;have hxl:x.length<=1000000:=by have:=kI x (by simp);rw[List.length_take]at this;omega
   have hov:¬9223372036854775807<x.length+(min (k+1) s.length-k):=by omega
   have agH:(⟨x.toArray⟩:ByteArray)++(⟨s.toArray⟩:ByteArray).extract k (k+1)=⟨(x++[b]).toArray⟩:=by
    have he:(⟨s.toArray⟩:ByteArray).extract k (k+1)=⟨[b].toArray⟩:=by
     have h1:s.extract k (k+1)=[b]:=by rw[List.extract_eq_take_drop];have h2:=(List.getElem?_eq_some_iff.1 eD).2;rw[show k+1-k=1 by omega,List.drop_eq_getElem_cons hlt,h2];rfl
     apply ByteArray.ext;simp[ByteArray.data_extract,h1]
    rw[he,N3]
   have aa2:=af (hr.out.stored m (.string ⟨(x++[b]).toArray⟩));have hfz:wr.frozen? ⟨g,m,none⟩=false:=hr.out.frozenAt m;replace Wd:wr.cell? ⟨g,m,none⟩=some (.string ⟨x.toArray⟩):=Wd;have hgl:w.heap.size<=g:=(hr.out.lt g rfl).1;clear Wb Wc hlen;go_wp2_with fail;refine aH [(17,fun w'=>w'.cell? ⟨g,m,none⟩=some (.string ⟨x.toArray⟩))] (by kernel_rfl) ⟨by go_simp,trivial⟩ fun KQ aL=>?_;refine tQ [0,1,2,3,4,5,6,7,8] ?_;refine aG 9 rfl (by kernel_rfl) (by kernel_rfl) rfl rfl 0 rfl (by kernel_rfl) (.string ⟨x.toArray⟩) (fun w' hf=>by(go_simp<;>with_reducible rfl)) ?_;simp only[PT];refine tQ [10,11,12,13,14,15] ?_;refine tQ [16] ?_;refine sQ 17 fun K hK=>?_;simp only[GO];go_simp;refine hK _ _ ⟨⟨(fun h=>by cases h),trivial⟩,?_⟩;clear hK K;refine dQ (aL.out _ _ ?_);clear aL KQ;go_wp2_with fail;go_roundw
   case rel=>
    have wC:=Below.setCell hb.out (p:=⟨g,m,none⟩) hgl (.string ⟨(x++[b]).toArray⟩);refine⟨k+1,by go_num,by omega,?_,af wC.drew⟩;rw[hstep.out];unfold jk;rw[if_neg Zj,List.dropLast_concat,List.getLast?_concat];have h2:=aB aa2.1 (ai.drew);have e2:(List.map uL (pre++[x])).set m (.string ⟨(x++[b]).toArray⟩)=List.map uL (pre++[x++[b]]):=by rw[<-hm];simp[uL]
    rw[e2]at h2;have e3:(pre++[(some x).getD []++[b]]).length=m+1:=by simp[hm]
    rw[e3];exact af h2
   case measure=>simp[intOf];omega
  obtain rfl:k=s.length:=by omega
  have dk:decide ((s.length:Int)<(s.length:Int))=false:=by simp
  rw[List.take_length]at hr;go_wp2;go_ret;exact⟨_,rfl,hr.out,hb.out⟩
theorem sw(s:List UInt8)(w:World)(hs:s.length<=2000000):
  Calls prog 116 #[.string ⟨s.toArray⟩] w fun e w'=>e=.returned (.bool (bU s))/\Below w.heap.size w w':=by
 have CD:=af fun W=>xo s W hs;rcases U0:dp s with _ | _
 ·rw[U0]at CD;have hF:bU s=false:=by unfold bU;rw[U0,Bool.and_false]
  have hF:=af hF;go_enter func116,ntmps116;go_wp2_with (go_at_call 180;refine(CD _).mono ?_;rintro e w1 ⟨rfl,hb1⟩)
  go_ret;exact⟨by rw[hF.out];rfl,hb1⟩
 rw[U0]at CD;have CL:=af fun W=>Dq s W (by have h9:=U0;unfold dp at h9;simp at h9;omega);have hF:bU s=iN (cO s) (cO s).length:=by unfold bU;rw[U0,Bool.and_true]
 rw[hF];have Ni:=mV s;have Dr:=congrArg List.length (jN s);rw[List.length_map]at Dr;have Hb:=V9 s;have jL:=oI s;obtain⟨ps,qX⟩:=ae (cO s);rw[qX]at Dr Hb Ni ⊢;obtain⟨n,hn⟩:=ae ps.length;rw[hn]at Dr Hb Ni ⊢;obtain⟨ls,xw⟩:=ae (dO s);rw[xw]at Dr Hb jL CL;have Hb:=af Hb;have jL:=af jL.2;have Zk:=af hn;replace Dr:=af Dr.symm;clear hF U0 qX xw hn;go_enter func116,ntmps116;go_wp2_with (first
  | (go_at_call 180;refine(CD _).mono ?_;rintro e w1 ⟨rfl,hb1⟩)
  | (go_at_call 182;refine(CL _).mono ?_;rintro e w2 ⟨v,rfl,hr2,hb2⟩))
 rw[Dr.out]at hr2;have Nk:=af (aT (base':=w.heap.size) hr2 hb1.size);have hb0:=af (hb1.trans (hb2.mono hb1.size));obtain⟨a,c,rfl⟩:=aA hr2;clear hb1 hb2 hr2;go_loopw [4] (fun i wr=>∃k:Nat,i=.int .i64 k/\k<=n/\iN ps k=true/\Hid (wr.ownsRow w.heap.size 9 1 (.slice a n c) n (ls.map uL))/\Hid (Below w.heap.size w wr)) (fun i _=>n-(intOf i).toNat)
 case atStart=>exact⟨0,rfl,Nat.zero_le _,rfl,Nk,hb0⟩
 case round=>
  obtain⟨k,rfl,hk,hfk,hr,hb⟩:=hrel;rcases Nat.lt_or_ge k n with hlt | jw
  ·have dk:decide ((k:Int)<(n:Int))=true:=decide_eq_true (by omega);have hg:=Hb k hlt;obtain⟨l,hl⟩:=ae ((lvl ps k).data.toList);have Ff:=jL l (by rw[<-hl];exact List.mem_of_getElem? hg);have cL:=ql ps k;have eK:=sj ps k n hlt;rw[hl]at hg cL eK;rw[Zk.out,hfk,Bool.true_and]at cL;rw[Zk.out]at eK;have Ql:=xp l;have CS:=af fun W=>xq l W (by omega);obtain⟨_,_,Wb,Wc⟩:=z8 hr.out;obtain⟨rfl,rfl⟩:a=_/\c=_:=by simpa using Wb
   obtain⟨g,hag,Wd⟩:=Wc k (uL l) (by rw[List.getElem?_map,hg];rfl);subst hag;unfold uL at Wd;obtain⟨x,hx⟩:=ae ((⟨l.toArray⟩:ByteArray):ByteArray);rw[hx]at Wd CS;obtain⟨bl,hbl⟩:=ae (decide (k+1=n));obtain⟨ba,RR⟩:=ae (ya l);obtain⟨Kh,hb1⟩:=ae (decide (l=[43]));obtain⟨Nj,hb2⟩:=ae (decide (l=[35]));have e1:Kh=true↔x=⟨#[43]⟩:=by rw[<-hb1,<-hx];simp
   have e2:Nj=true↔x=⟨#[35]⟩:=by rw[<-hb2,<-hx];simp
   unfold z7 at cL eK;simp only[hbl,RR,hb1,hb2]at cL eK Ql;obtain⟨sg,Wf⟩:=ae (eL l);rw[Wf]at Ql CS;obtain⟨sz,hsz⟩:=ae (((sg:Nat):Int):Int);have agJ:0<=sz:=by omega
   have Ql:(sz=0)↔(ba=false):=by rw[<-hsz];cases ba<;>simp at Ql ⊢<;>omega
   rw[hsz]at CS;clear hsz Wf;have ad2:((k:Int)==(n:Int)-1)=bl:=by rw[<-hbl,Bool.eq_iff_iff];simp;omega
   clear hb1 hb2 RR hbl Wb Wc hx hg hl Ff;have cL:=af cL;have eK:=af eK;rcases ba with _ | _
   ·have dsg:decide (0<sz)=false:=decide_eq_false (by have:=Ql.2 rfl;omega);clear Ql e1 e2;go_wp2_with (go_at_call 181;refine(CS _).mono ?_;rintro e w3 ⟨rfl,rfl⟩);go_roundw
    case rel=>exact⟨k+1,by go_num,by omega,by rw[cL.out];simp,hr,hb⟩
    case measure=>simp[intOf];omega
   have dsg:decide (0<sz)=true:=decide_eq_true (by have h0:sz≠0:=fun h=>Bool.noConfusion (Ql.1 h);omega);clear Ql;rcases Kh with _ | _
   ·have h1:¬x=⟨#[43]⟩:=fun h=>by have:=e1.2 h;cases this
    have i1:¬x.toList=[43]:=fun h=>h1 (toList_inj (by rw[h];exact(ByteArray.toList_mk [43]).symm));have UZ:(x.toList==[43])=false:=by simpa using i1
    rcases Nj with _ | _
    ·have h2:¬x=⟨#[35]⟩:=fun h=>by have:=e2.2 h;cases this
     have i2:¬x.toList=[35]:=fun h=>h2 (toList_inj (by rw[h];exact(ByteArray.toList_mk [35]).symm));have VY:(x.toList==[35])=false:=by simpa using i2
     clear e1 e2;go_wp2_with (go_at_call 181;refine(CS _).mono ?_;rintro e w3 ⟨rfl,rfl⟩);go_ret;exact⟨by rw[eK rfl];rfl,hb.out⟩
    have h2:=e2.1 rfl;clear e1 e2 h1 i1 UZ;subst h2;rcases bl with _ | _
    ·go_wp2_with (go_at_call 181;refine(CS _).mono ?_;rintro e w3 ⟨rfl,rfl⟩)
     go_ret;exact⟨by rw[eK rfl];rfl,hb.out⟩
    skip;go_wp2_with (go_at_call 181;refine(CS _).mono ?_;rintro e w3 ⟨rfl,rfl⟩)
    go_roundw
    case rel=>exact⟨k+1,by go_num,by omega,by rw[cL.out];simp,hr,hb⟩
    case measure=>simp[intOf];omega
   have h1:=e1.1 rfl;clear e1 e2;subst h1;go_wp2_with (go_at_call 181;refine(CS _).mono ?_;rintro e w3 ⟨rfl,rfl⟩);go_roundw
   case rel=>exact⟨k+1,by go_num,by omega,by rw[cL.out];simp,hr,hb⟩
   case measure=>simp[intOf];omega
  obtain rfl:k=n:=by omega
  have dk:decide ((k:Int)<(k:Int))=false:=by simp
  go_wp2;go_ret;exact⟨by rw[hfk];rfl,hb.out⟩
end Go.Proofs.YtkghejaimhoboaaGreatDoor
