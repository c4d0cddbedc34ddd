/- Parts of the proof of ScriptTurns. -/
import Derived.Test.YtkghejaimhoboaaGreatDoorPk32
import Derived.Test.YtkghejaimhoboaaGreatDoorPk30
set_option linter.unusedSimpArgs false
set_option linter.unusedVariables false
set_option maxRecDepth 100000
set_option maxHeartbeats 8000000
namespace Go.Proofs.YtkghejaimhoboaaGreatDoor
open Go.RowKit Go.Shelf Go.Proofs.Tryz
section
attribute [local go_sem] Oper.semAt_some
structure Vi (k:Int)(f B p:Nat)(l:List UInt8)(w:World)(e:Ending)(w':World):Prop where
 wrote:ak [p] w w'
 out:(cj k f l=none/\e=.panicked mn)\/∃(y:Pk)(h:H3)(r:List UInt8),cj k f l=some ({y with kind:=k},r)/\e=.returned (.agg (y.cells h).toArray)/\Rd w' B p r/\∀M,(∀b∈M,b<w.heap.size)->vE w' y h M
theorem vE.zero(w:World)(y:Pk)(h:y.wants=[]/\y.codes=[]/\y.filters=[])(M:List Nat):vE w y bo M:=by
 obtain⟨a,b,c⟩:=h;refine⟨?_,?_,?_⟩
 ·rw[a];exact eN.nil w M
 ·rw[b];exact eN.nil w M
 rw[c];exact eN.nil w M
theorem Ph{k:Int}(hk:12<=k)(f:Nat)(l:List UInt8):cj k f l=some (aN k,l):=by unfold cj;rw[if_neg (by omega),if_neg (by omega),if_neg (by omega),if_neg (by omega),if_neg (by omega),if_neg (by omega),if_neg (by omega)]
theorem pM(k:Int)(hk:12<=k)(f:Nat){w:World}{B p:Nat}{l:List UInt8}(h:Rd w B p l):Calls prog 122 #[.agg #[.pointer (some ⟨p,0,none⟩)],.int .i64 f] w (Vi k f B p l w):=by
 obtain⟨W0,hW0⟩:=ae (w.alloc (.cells #[.pointer (some ⟨p,0,none⟩)] 161));have s0:W0.heap.size=w.heap.size+1:=by rw[<-hW0];simp
 obtain⟨W1,hW1⟩:=ae (W0.alloc (.cells #[.int .i64 0,.bool false,.bool false,.int .i64 0,.string ⟨#[]⟩,.string ⟨#[]⟩,.int .i64 0,.string ⟨#[]⟩,.bool false,.int .i64 0,.bool false,.string ⟨#[]⟩,.string ⟨#[]⟩,.int .i64 0,.bool false,.bool false,.bool false,.string ⟨#[]⟩,.string ⟨#[]⟩,.bool false,.int .i64 0,.slice none 0 0,.slice none 0 0,.slice none 0 0] 52));have s1:W1.heap.size=w.heap.size+2:=by rw[<-hW1];simp;omega
 have b0:Below w.heap.size w W0:=by rw[<-hW0];exact ai.alloc ah _
 have b1:Below w.heap.size w W1:=by rw[<-hW1];exact b0.alloc b0.size _
 have x1:ar W1 w.heap.size #[.pointer (some ⟨p,0,none⟩)] 161:=by rw[<-hW1,<-hW0];exact(ar.new _ _ _).alloc _
 have z1:ar W1 (w.heap.size+1) bF 52:=by have:=ar.new W0 bF 52;rw[show W0.alloc (.cells bF 52)=W1 from hW1,s0]at this;exact this
 have R1:=h.ag b1;have K1:ak [p] w W1:=ak.aK b1;have kF:=h.lt;have mF:=h.base;clear h b0;have aV:=af (Pk.one (aN 0) bo);replace b1:=af b1;replace x1:=af x1;replace R1:=af R1;replace K1:=af K1;go_enter func122,ntmps122;go_wp2_with (refine wS 52 24 rfl (w.heap.size+1) _ ((aN 0).cells bo).toArray rfl rfl z1 rfl rfl aV.out ?_;intro w2 hw2 hr2)
 refine bodyPost_ret (aJ results122 rfl (aj hw2 52 underlying52 rfl (by kernel_rfl))) rfl ?_;have b2:=b1.trans (hr2.ag b1.size (by simp));exact⟨ak.aK b2,.inr ⟨aN 0,bo,l,Ph hk f l,rfl,R1.wrote hr2 (by simp;omega),fun M _=>vE.zero _ _ ⟨rfl,rfl,rfl⟩ M⟩⟩
theorem tV(f:Nat)(l:List UInt8):cj 2 f l=qw l:=by unfold cj;rw[if_neg (by decide),if_pos rfl]
theorem Em(f:Nat){w:World}{B p:Nat}{l:List UInt8}(h:Rd w B p l):Calls prog 128 #[.agg #[.pointer (some ⟨p,0,none⟩)],.int .i64 f] w (Vi 2 f B p l w):=by
 have CM:=af qN;obtain⟨W0,hW0⟩:=ae (w.alloc (.cells #[.pointer (some ⟨p,0,none⟩)] 161));have s0:W0.heap.size=w.heap.size+1:=by rw[<-hW0];simp
 obtain⟨W1,hW1⟩:=ae (W0.alloc (.cells #[.int .i64 0,.bool false,.bool false,.int .i64 0,.string ⟨#[]⟩,.string ⟨#[]⟩,.int .i64 0,.string ⟨#[]⟩,.bool false,.int .i64 0,.bool false,.string ⟨#[]⟩,.string ⟨#[]⟩,.int .i64 0,.bool false,.bool false,.bool false,.string ⟨#[]⟩,.string ⟨#[]⟩,.bool false,.int .i64 0,.slice none 0 0,.slice none 0 0,.slice none 0 0] 52));have s1:W1.heap.size=w.heap.size+2:=by rw[<-hW1];simp;omega
 have b0:Below w.heap.size w W0:=by rw[<-hW0];exact ai.alloc ah _
 have b1:Below w.heap.size w W1:=by rw[<-hW1];exact b0.alloc b0.size _
 have x1:ar W1 w.heap.size #[.pointer (some ⟨p,0,none⟩)] 161:=by rw[<-hW1,<-hW0];exact(ar.new _ _ _).alloc _
 have z1:ar W1 (w.heap.size+1) bF 52:=by have:=ar.new W0 bF 52;rw[show W0.alloc (.cells bF 52)=W1 from hW1,s0]at this;exact this
 have R1:=h.ag b1;have K1:ak [p] w W1:=ak.aK b1;have kF:=h.lt;have mF:=h.base;clear h b0;have CX:=af (eV R1 1 (by decide) (by decide));have Z1:=af z1;have B1:=af b1;replace K1:=af K1;clear z1 R1 b1;go_enter func128,ntmps128;go_wp2_with (refine wL 161 rfl rfl x1 underlying161 ?_)
 refine CX.mono ?_;rintro e w2 (⟨hno,rfl,hw2⟩ | ⟨⟨m,r⟩,hx,rfl,R2,hw2⟩)
 ·refine⟨rfl,K1.trans hw2,.inl ⟨?_,rfl⟩⟩;rw[tV];unfold qw;rw[hno];rfl
 dsimp only at R2 ⊢;have x2:=x1.aw hw2 (by simp;omega);have Z2:=af (Z1.aw hw2 (by simp;omega));have K2:=af (K1.trans hw2);have hs2:=af hw2.size;have CY:=af (eV R2 1 (by decide) (by decide));have hx:=af hx;clear hw2 R2 x1;obtain⟨z,hz⟩:=ae ((m:Int):Int);rw[hz];by_cases h1:z<=1
 ·have d:decide (z<=1)=true:=decide_eq_true h1;replace hz:=af hz;go_wp2_with (first
   | (go_at_call 95;refine(CM _ _).mono ?_;rintro e w9 ⟨rfl,rfl⟩)
   | (refine wL 161 rfl rfl x2 underlying161 ?_))
  refine CY.mono ?_;rintro e w3 (⟨hno,rfl,hw3⟩ | ⟨⟨c,r2⟩,hy,rfl,R3,hw3⟩)
  ·refine⟨rfl,K2.trans hw3,.inl ⟨?_,rfl⟩⟩;rw[tV];unfold qw;rw[hx.out,Option.bind_some];dsimp only;rw[if_neg (by have:=hz.out;omega),hno];rfl
  dsimp only at R3 ⊢;have z3:=Z2.aw hw3 (by simp;omega);have K3:=af (K2.trans hw3);have aV:=af (Pk.one {aN 0 with present:=z==1,code:=(c:Int)} bo);have R3:=af R3;have hy:=af hy;have hs3:=af (show w.heap.size+2<=w3.heap.size by have:=hw3.size;have:=hs2.out;omega);clear hw3 x2;go_wp2_with (refine wS 52 24 rfl (w.heap.size+1) _ (({aN 0 with present:=z==1,code:=(c:Int)}:Pk).cells bo).toArray rfl rfl z3 rfl rfl aV.out ?_;intro w4 hw4 hr4);refine bodyPost_ret (aJ results128 rfl (aj hw4 52 underlying52 rfl (by kernel_rfl))) rfl ?_;refine⟨K3.fu hr4 (by simp),.inr ⟨{aN 0 with present:=z==1,code:=(c:Int)},bo,r2,?_,rfl,R3.wrote hr4 (by simp;omega),fun M _=>vE.zero _ _ ⟨rfl,rfl,rfl⟩ M⟩⟩;rw[tV];unfold qw;rw[hx.out,Option.bind_some];dsimp only;rw[if_neg (by have:=hz.out;omega),hy.out,Option.bind_some];have e1:decide (m=1)=(z==1):=by
   have:=hz.out;by_cases hm:m=1
   ·subst hm;subst this;rfl
   rw[decide_eq_false hm];symm;rw[beq_eq_false_iff_ne];omega
  rw[e1];rfl
 have d:decide (z<=1)=false:=decide_eq_false h1;replace hz:=af hz;go_wp2_with (go_at_call 95;refine(CM _ _).mono ?_;rintro e w9 ⟨rfl,rfl⟩);refine⟨rfl,K2.out,.inl ⟨?_,rfl⟩⟩;rw[tV];unfold qw;rw[hx.out,Option.bind_some];dsimp only;rw[if_pos (by have:=hz.out;omega)]
theorem XG:∀f:Nat,f<16->decide (0<bits .and .i64 (f:Int) 8)=has f 8:=by decide
theorem and_1:∀f:Nat,f<16->decide (0<bits .and .i64 (f:Int) 1)=has f 1:=by decide
theorem and_3:∀f:Nat,f<16->bits .and .i64 ((f:Int) / 2) 3=((f / 2%4:Nat):Int):=by decide
theorem Pj(f:Nat)(l:List UInt8):cj 3 f l=jm f l:=by unfold cj;rw[if_neg (by decide),if_neg (by decide),if_pos rfl]
theorem En(f:Nat)(hf:f<16){w:World}{B p:Nat}{l:List UInt8}(h:Rd w B p l):Calls prog 209 #[.agg #[.pointer (some ⟨p,0,none⟩)],.int .i64 f] w (Vi 3 f B p l w):=by
 obtain⟨W0,hW0⟩:=ae (w.alloc (.cells #[.pointer (some ⟨p,0,none⟩)] 161));have s0:W0.heap.size=w.heap.size+1:=by rw[<-hW0];simp
 obtain⟨W1,hW1⟩:=ae (W0.alloc (.cells #[.int .i64 0,.bool false,.bool false,.int .i64 0,.string ⟨#[]⟩,.string ⟨#[]⟩,.int .i64 0,.string ⟨#[]⟩,.bool false,.int .i64 0,.bool false,.string ⟨#[]⟩,.string ⟨#[]⟩,.int .i64 0,.bool false,.bool false,.bool false,.string ⟨#[]⟩,.string ⟨#[]⟩,.bool false,.int .i64 0,.slice none 0 0,.slice none 0 0,.slice none 0 0] 52));have s1:W1.heap.size=w.heap.size+2:=by rw[<-hW1];simp;omega
 have b0:Below w.heap.size w W0:=by rw[<-hW0];exact ai.alloc ah _
 have b1:Below w.heap.size w W1:=by rw[<-hW1];exact b0.alloc b0.size _
 have x1:ar W1 w.heap.size #[.pointer (some ⟨p,0,none⟩)] 161:=by rw[<-hW1,<-hW0];exact(ar.new _ _ _).alloc _
 have z1:ar W1 (w.heap.size+1) bF 52:=by have:=ar.new W0 bF 52;rw[show W0.alloc (.cells bF 52)=W1 from hW1,s0]at this;exact this
 have R1:=h.ag b1;have K1:ak [p] w W1:=ak.aK b1;have kF:=h.lt;have mF:=h.base;clear h b0;have CX:=af (ju R1);have Z1:=af z1;have B1:=af b1;replace K1:=af K1;clear z1 R1 b1;have e8:=XG f hf;have e1:=and_1 f hf;have e3:=and_3 f hf;obtain⟨z,hz⟩:=ae ((f:Int):Int);obtain⟨d,hd⟩:=ae (has f 8);obtain⟨rt,hrt⟩:=ae (has f 1);obtain⟨q,hq⟩:=ae (((f / 2%4:Nat):Int):Int);have hz0:0<=z:=by omega
 have hz1:z<16:=by omega
 have oF:0<=q:=by omega
 have U9:q<4:=by omega
 rw[hz]at e8 e1 e3 ⊢;rw[hd]at e8;rw[hrt]at e1;rw[hq]at e3;replace hz:=af hz;have iq:Hid (cj 3 f l=(bC l).bind fun t=>(dm (decide (0<q)) 0 (aX 2) t.2).bind fun i=>some ({aN 3 with dup:=d,retain:=rt,qos:=q,topic:=t.1,id:=(i.1:Int),body:=i.2},[])):=af (by rw[Pj];unfold jm;rw[hd,hrt,hq,show decide (0<f / 2%4)=decide (0<q)from decide_eq_decide.2 (by omega)])
 clear hd hrt hq hf;go_enter func209,ntmps209;go_wp2_with (refine wL 161 rfl rfl x1 underlying161 ?_)
 refine CX.mono ?_;rintro e w2 (⟨hno,rfl,hw2⟩ | ⟨⟨s,r⟩,hx,rfl,R2,hw2⟩)
 ·refine⟨rfl,K1.trans hw2,.inl ⟨?_,rfl⟩⟩;rw[iq,hno];rfl
 dsimp only at R2 ⊢;rw[hx,Option.bind_some]at iq;dsimp only at iq;have X2:=af (x1.aw hw2 (by simp;omega));have Z2:=af (Z1.aw hw2 (by simp;omega));have K2:=af (K1.trans hw2);have R2:=af R2;have hs2:w.heap.size+2<=w2.heap.size:=by have:=hw2.size;omega
 clear hw2 hx x1;obtain⟨p1,zw⟩:∃p1:Pk,({aN 0 with dup:=d,retain:=rt,qos:=q,topic:=s}:Pk)=p1:=⟨_,rfl⟩;have aV:Hid (∀v∈(p1.cells bo).toArray.toList,v.oneCell'=true):=af (Pk.one p1 bo);obtain⟨pc,bt⟩:=ae ((p1.cells bo).toArray);have qX:Hid (pc.size=24):=af (by rw[<-bt];rfl);have hpl:(.agg #[.int .i64 0,.bool d,.bool rt,.int .i64 q,.string ⟨s.toArray⟩,.string ⟨#[]⟩,.int .i64 0,.string ⟨#[]⟩,.bool false,.int .i64 0,.bool false,.string ⟨#[]⟩,.string ⟨#[]⟩,.int .i64 0,.bool false,.bool false,.bool false,.string ⟨#[]⟩,.string ⟨#[]⟩,.bool false,.int .i64 0,.slice none 0 0,.slice none 0 0,.slice none 0 0]:Value)=.agg pc:=by rw[<-bt,<-zw];rfl
 rw[bt]at aV;replace hpl:=af hpl;replace bt:=af bt;go_upto_region 2 with(rw[hpl.out];refine wS 52 24 rfl _ _ pc rfl rfl (ar.new _ _ _) qX.out (by rfl) aV.out ?_;intro w3 hw3 hr3);have b3:Below w2.heap.size w2 w3:=(ai.alloc ah _).trans (hr3.ag (by simp) (by simp));have hs3:w2.heap.size+1<=w3.heap.size:=by have:=hr3.size;simp at this;omega
 have R3:=af (R2.ag b3);have X3:=af (X2.ag b3);have Z3:=af (Z2.ag b3);have K3:=af (K2.trans (ak.aK b3));have Y3:=af hw3;have kq:w3.cell? ⟨w2.heap.size,3,none⟩=some (.int .i64 q):=by rw[hw3.cell,<-bt.out,<-zw];rfl
 replace zw:=af zw;clear hr3 b3 hw3 X2 Z2 K2 R2;try simp only[PT]
 by_cases hq:0<q
 ·have dq:decide (0<q)=true:=decide_eq_true hq;rw[dq]at iq;have CN:=af (eV R3.out 2 (by decide) (by decide));have x3:=X3.out;go_wp2_with (refine wL 161 rfl rfl x3 underlying161 ?_)
  refine CN.mono ?_;rintro e w4 (⟨hno,rfl,hw4⟩ | ⟨⟨i,r2⟩,hx,rfl,R4,hw4⟩)
  ·refine⟨rfl,K3.trans hw4,.inl ⟨?_,rfl⟩⟩;rw[iq];unfold dm;rw[if_pos rfl,hno];rfl
  dsimp only at R4 ⊢;have y4:=Y3.aw hw4 (by simp;omega);have X4:=af (X3.aw hw4 (by simp;omega));have Z4:=af (Z3.aw hw4 (by simp;omega));have K4:=af (K3.trans hw4);have R4:=af R4;have hx:=af hx;have Ip:w2.heap.size+1<=w4.heap.size:=by have:=hw4.size;omega
  clear hw4 x3 kq;obtain⟨ii,Kb⟩:=ae ((i:Int):Int);rw[Kb];replace Kb:=af Kb;go_upto_region 4 with(refine aq rfl 2 52 _ _ rfl (fun w=>by kernel_rfl) w2.heap.size 6 pc (.int .i64 ii) rfl rfl y4 (by rw[qX];decide) rfl rfl ?_;intro w5 eo fh);obtain⟨pd,XH⟩:=ae (pc.setIfInBounds 6 (.int .i64 ii));rw[XH]at eo;have acb:Hid (pd.size=24):=af (by rw[<-XH,Array.size_setIfInBounds,qX]);have XH:=af XH;have Y5:=af eo;have X5:=af (X4.aw fh (by simp;omega));have Z5:=af (Z4.aw fh (by simp;omega));have R5:=af (R4.wrote fh (by simp;omega));have K5:=af (K4.fu fh (by simp;omega));have hs5:w2.heap.size+1<=w5.heap.size:=by have:=fh.size;omega
  clear fh y4 eo;try simp only[PT]
  have CR:=af (F7 R5.out);go_wp2_with (refine wL 161 rfl rfl X5.out underlying161 ?_)
  refine CR.mono ?_;rintro e w7 ⟨rfl,R7,gZ⟩;have y7:=Y5.aw gZ (by simp;omega);have Z7:=af (Z5.aw gZ (by simp;omega));have K7:=af (K5.trans gZ);have ZL:w2.heap.size+1<=w7.heap.size:=by have:=gZ.size;omega
  have R7:=af R7;obtain⟨yd,qG⟩:∃yd:Pk,({p1 with id:=ii,body:=r2}:Pk)=yd:=⟨_,rfl⟩;obtain⟨yc,eE⟩:=ae ((yd.cells bo).toArray);have iU:Hid (pd.setIfInBounds 5 (.string ⟨r2.toArray⟩)=yc):=af (by rw[<-eE,<-qG,<-XH.out,<-bt.out];rfl);have O6:Hid (∀v∈yc.toList,v.oneCell'=true):=af (by rw[<-eE];exact Pk.one yd bo);have jE:Hid (yc.size=24):=af (by rw[<-eE];rfl);have iy:Hid ((prog.info? 52).map (·.size)=some yc.size):=af (by rw[jE];exact(by kernel_rfl:(prog.info? 52).map (·.size)=some 24));have qG:=af qG;have eE:=af eE;clear gZ;go_upto_region 5 with(refine aq rfl 9 52 _ _ rfl (fun w=>by kernel_rfl) w2.heap.size 5 pd (.string ⟨r2.toArray⟩) rfl rfl y7 (by rw[acb];decide) rfl rfl ?_;intro w8 rT wV);rw[iU]at rT;have Z8:=af (Z7.aw wV (by simp;omega));have R8:=af (R7.wrote wV (by simp;omega));have K8:=af (K7.fu wV (by simp;omega));have hs8:=wV.size;clear wV y7;try simp only[PT]
  go_wp2_with (first
   | (refine wL 52 rfl rfl rT underlying52 ?_ rfl rfl iy.out)
   | (refine wS 52 24 rfl (w.heap.size+1) _ yc rfl rfl Z8.out jE.out rfl O6.out ?_;intro w9 cC dN))
  refine bodyPost_ret (aJ results209 rfl (aj cC 52 underlying52 rfl iy.out)) rfl ?_;refine⟨K8.fu dN (by simp),.inr ⟨yd,bo,[],?_,by rw[eE.out],R8.wrote dN (by simp;omega),fun M _=>vE.zero _ _ ⟨by rw[<-qG.out,<-zw.out];rfl,by rw[<-qG.out,<-zw.out];rfl,by rw[<-qG.out,<-zw.out];rfl⟩ M⟩⟩;rw[iq,show dm true 0 (aX 2) r=some (i,r2)from hx.out,Option.bind_some,Kb.out];rw[<-qG.out,<-zw.out];rfl
 have dq:decide (0<q)=false:=decide_eq_false hq;rw[dq]at iq;go_upto_region 4 with fail
 try simp only[PT]
 have CR:=af (F7 R3.out);go_wp2_with (refine wL 161 rfl rfl X3.out underlying161 ?_)
 refine CR.mono ?_;rintro e w7 ⟨rfl,R7,gZ⟩;have y7:=Y3.aw gZ (by simp;omega);have Z7:=af (Z3.aw gZ (by simp;omega));have K7:=af (K3.trans gZ);have ZL:w2.heap.size+1<=w7.heap.size:=by have:=gZ.size;omega
 have R7:=af R7;obtain⟨yd,qG⟩:∃yd:Pk,({p1 with id:=0,body:=r}:Pk)=yd:=⟨_,rfl⟩;obtain⟨yc,eE⟩:=ae ((yd.cells bo).toArray);have iU:Hid (pc.setIfInBounds 5 (.string ⟨r.toArray⟩)=yc):=af (by rw[<-eE,<-qG,<-bt.out,<-zw.out];rfl);have O6:Hid (∀v∈yc.toList,v.oneCell'=true):=af (by rw[<-eE];exact Pk.one yd bo);have jE:Hid (yc.size=24):=af (by rw[<-eE];rfl);have iy:Hid ((prog.info? 52).map (·.size)=some yc.size):=af (by rw[jE];exact(by kernel_rfl:(prog.info? 52).map (·.size)=some 24));have qG:=af qG;have eE:=af eE;clear gZ;go_upto_region 5 with(refine aq rfl 9 52 _ _ rfl (fun w=>by kernel_rfl) w2.heap.size 5 pc (.string ⟨r.toArray⟩) rfl rfl y7 (by rw[qX];decide) rfl rfl ?_;intro w8 rT wV);rw[iU]at rT;have Z8:=af (Z7.aw wV (by simp;omega));have R8:=af (R7.wrote wV (by simp;omega));have K8:=af (K7.fu wV (by simp;omega));have hs8:=wV.size;clear wV y7;try simp only[PT]
 go_wp2_with (first
  | (refine wL 52 rfl rfl rT underlying52 ?_ rfl rfl iy.out)
  | (refine wS 52 24 rfl (w.heap.size+1) _ yc rfl rfl Z8.out jE.out rfl O6.out ?_;intro w9 cC dN))
 refine bodyPost_ret (aJ results209 rfl (aj cC 52 underlying52 rfl iy.out)) rfl ?_;refine⟨K8.fu dN (by simp),.inr ⟨yd,bo,[],?_,by rw[eE.out],R8.wrote dN (by simp;omega),fun M _=>vE.zero _ _ ⟨by rw[<-qG.out,<-zw.out];rfl,by rw[<-qG.out,<-zw.out];rfl,by rw[<-qG.out,<-zw.out];rfl⟩ M⟩⟩;rw[iq,show dm false 0 (aX 2) r=some (0,r)from rfl,Option.bind_some];rw[<-qG.out,<-zw.out];rfl
structure QY (rd:Int->List UInt8->Option (Pk×List UInt8))(id:Int)(B p tb:Nat)(l:List UInt8)(w:World)(e:Ending)(w':World):Prop where
 wrote:ak [p,tb] w w'
 out:(rd id l=none/\e=.panicked mn)\/∃(y:Pk)(h:H3)(r:List UInt8),rd id l=some (y,r)/\e=.returned (.tuple #[])/\Rd w' B p r/\ar w' tb (y.cells h).toArray 52/\∀M,(∀b∈M,b<w.heap.size)->vE w' y h M
theorem vE.step{w w':World}{p:Pk}{h:H3}{M M' M2:List Nat}(k:vE w p h M)(hw:ak M' w w')(h1:∀b∈M',b∈M\/w.heap.size<=b)(h2:∀b∈M2,b∈M\/w.heap.size<=b):vE w' p h M2:=⟨k.lw.step hw h1 h2,k.lc.step hw h1 h2,k.lf.step hw h1 h2⟩
theorem ak.cut{M N:List Nat}{a c:World}(h:ak M a c)(hs:∀x∈M,x∈N\/a.heap.size<=x):ak N a c:=⟨h.os,h.tape,h.output,h.size,fun i hi hm=>h.block i hi (fun hx=>(hs i hx).elim hm (fun h=>by omega))⟩
theorem eH(fr:FuncId)(b:Nat)(rd:Int->List UInt8->Option (Pk×List UInt8))(k:Int)(f:Nat)(Nh:gY fr){w:World}{B p:Nat}{l:List UInt8}(h:Rd w B p l)(hb:Boxed w (b+4) 195 (bG fr #[]))(JH:b+4≠p)
  (oN:cj k f l=(aX 2 l).bind fun i=>(rd (i.1:Int) i.2).bind fun y=>some ({y.1 with kind:=k},y.2))
  (hc:∀W tb id l1,Rd W B p l1->l1.length<=l.length->ar W tb (({aN 0 with id:=id}:Pk).cells bo).toArray 52->B<=tb->Calls prog fr #[.agg #[.pointer (some ⟨p,0,none⟩)],.pointer (some ⟨tb,0,none⟩)] W (QY rd id B p tb l1 W)):
  Calls prog 187 #[.agg #[.pointer (some ⟨p,0,none⟩)],.int .i64 f,.pointer (some ⟨b+4,0,none⟩)] w (Vi k f B p l w):=by
 obtain⟨W0,hW0⟩:=ae (w.alloc (.cells #[.pointer (some ⟨p,0,none⟩)] 161));have s0:W0.heap.size=w.heap.size+1:=by rw[<-hW0];simp
 obtain⟨W1,hW1⟩:=ae (W0.alloc (.cells #[.int .i64 0,.bool false,.bool false,.int .i64 0,.string ⟨#[]⟩,.string ⟨#[]⟩,.int .i64 0,.string ⟨#[]⟩,.bool false,.int .i64 0,.bool false,.string ⟨#[]⟩,.string ⟨#[]⟩,.int .i64 0,.bool false,.bool false,.bool false,.string ⟨#[]⟩,.string ⟨#[]⟩,.bool false,.int .i64 0,.slice none 0 0,.slice none 0 0,.slice none 0 0] 52));have s1:W1.heap.size=w.heap.size+2:=by rw[<-hW1];simp;omega
 have b0:Below w.heap.size w W0:=by rw[<-hW0];exact ai.alloc ah _
 have b1:Below w.heap.size w W1:=by rw[<-hW1];exact b0.alloc b0.size _
 have x1:ar W1 w.heap.size #[.pointer (some ⟨p,0,none⟩)] 161:=by rw[<-hW1,<-hW0];exact(ar.new _ _ _).alloc _
 have z1:ar W1 (w.heap.size+1) bF 52:=by have:=ar.new W0 bF 52;rw[show W0.alloc (.cells bF 52)=W1 from hW1,s0]at this;exact this
 have R1:=h.ag b1;have K1:ak [p] w W1:=ak.aK b1;have kF:=h.lt;have mF:=h.base;clear h b0;have CX:=af (eV R1 2 (by decide) (by decide));have hbl:=af hb.lt;have BX1:=af (aF hb b1);have Z1:=af z1;have B1:=af b1;replace K1:=af K1;replace oN:=af oN;replace hc:=af hc;unfold gY at Nh;clear z1 R1 b1 hb;go_enter func187,ntmps187;go_wp2_with (refine wL 161 rfl rfl x1 underlying161 ?_)
 refine CX.mono ?_;rintro e w2 (⟨hno,rfl,hw2⟩ | ⟨⟨i,r⟩,hx,rfl,R2,hw2⟩)
 ·refine⟨rfl,K1.trans hw2,.inl ⟨?_,rfl⟩⟩;rw[oN.out,hno];rfl
 dsimp only at R2 ⊢;have X2:=af (x1.aw hw2 (by simp;omega));have Z2:=af (Z1.aw hw2 (by simp;omega));have Nw:=af (hw2.boxed (by simpa using JH) BX1.out);have K2:=af (K1.trans hw2);have R2:=af R2;have hx:=af hx;have hs2:w.heap.size+2<=w2.heap.size:=by have:=hw2.size;omega
 obtain⟨ii,Kb⟩:=ae ((i:Int):Int);rw[Kb];replace Kb:=af Kb;clear hw2 x1;have aV:Hid (∀v∈(({aN 0 with id:=ii}:Pk).cells bo).toArray.toList,v.oneCell'=true):=af (Pk.one _ bo);obtain⟨pc,bt⟩:∃pc,(({aN 0 with id:=ii}:Pk).cells bo).toArray=pc:=⟨_,rfl⟩;have qX:Hid (pc.size=24):=af (by rw[<-bt];rfl);have hpl:(.agg #[.int .i64 0,.bool false,.bool false,.int .i64 0,.string ⟨#[]⟩,.string ⟨#[]⟩,.int .i64 ii,.string ⟨#[]⟩,.bool false,.int .i64 0,.bool false,.string ⟨#[]⟩,.string ⟨#[]⟩,.int .i64 0,.bool false,.bool false,.bool false,.string ⟨#[]⟩,.string ⟨#[]⟩,.bool false,.int .i64 0,.slice none 0 0,.slice none 0 0,.slice none 0 0]:Value)=.agg pc:=by rw[<-bt];rfl
 rw[bt]at aV;replace hpl:=af hpl;replace bt:=af bt;go_upto_region 2 with(rw[hpl.out];refine wS 52 24 rfl _ _ pc rfl rfl (ar.new _ _ _) qX.out (by rfl) aV.out ?_;intro w3 hw3 hr3);have b3:Below w2.heap.size w2 w3:=(ai.alloc ah _).trans (hr3.ag (by simp) (by simp));have hs3:w2.heap.size+1<=w3.heap.size:=by have:=hr3.size;simp at this;omega
 have R3:=af (R2.ag b3);have x3:=X2.ag b3;have Z3:=af (Z2.ag b3);have K3:=af (K2.trans (ak.aK b3));have k4:w3.cell? ⟨b+4,0,none⟩=some (bG fr #[]):=(aF Nw.out b3).cell;have uj:r.length<=l.length:=by have h1:=nt (k:=2) (l:=l) (r:=r) (n:=i) hx.out;omega
 have CC:=af (hc w3 w2.heap.size ii r R3.out uj (by rw[bt.out];exact hw3) (by omega));unfold bG at k4;clear hr3 b3 hw3 X2 Z2 K2 R2 Nw uj;try simp only[PT]
 go_wp2_with (refine wL 161 rfl rfl x3 underlying161 ?_)
 refine CC.mono ?_;rintro e w4 ⟨hw4,hout⟩;have Kx:ak [p] w w4:=by have h1:=(K3.sub (M':=[p,w2.heap.size]) (by simp)).trans hw4;exact h1.cut (by simp;omega)
 rcases hout with⟨hno,rfl⟩ | ⟨y,hy,r2,LA,rfl,R4,Y4,hN⟩
 ·refine⟨rfl,Kx,.inl ⟨?_,rfl⟩⟩;rw[oN.out,hx.out,Option.bind_some];dsimp only;rw[Kb.out,hno];rfl
 have Z4:=af (Z3.aw hw4 (by simp;omega));obtain⟨yc,eE⟩:=ae ((y.cells hy).toArray);have O6:Hid (∀v∈yc.toList,v.oneCell'=true):=af (by rw[<-eE];exact Pk.one y hy);have jE:Hid (yc.size=24):=af (by rw[<-eE];rfl);have iy:Hid ((prog.info? 52).map (·.size)=some yc.size):=af (by rw[jE];exact(by kernel_rfl:(prog.info? 52).map (·.size)=some 24));rw[eE]at Y4;have eE:=af eE;have hN:=af hN;have R4:=af R4;have Kx:=af Kx;have LA:=af LA;clear hw4 k4 x3;go_wp2_with (first
  | (refine wL 52 rfl rfl Y4 underlying52 ?_ rfl rfl iy.out)
  | (refine wS 52 24 rfl (w.heap.size+1) _ yc rfl rfl Z4.out jE.out rfl O6.out ?_;intro w5 eo fh))
 refine bodyPost_ret (aJ results187 rfl (aj eo 52 underlying52 rfl iy.out)) rfl ?_;refine⟨Kx.fu fh (by simp),.inr ⟨y,hy,r2,?_,by rw[eE.out],R4.wrote fh (by simp;omega),fun M hM=>?_⟩⟩
 ·rw[oN.out,hx.out,Option.bind_some];dsimp only;rw[Kb.out,LA.out];rfl
 refine(hN ((w.heap.size+1)::M) (fun c hc=>?_)).step fh (fun c hc=>.inl (by simp at hc;simp[hc])) (fun c hc=>.inl (List.mem_cons_of_mem _ hc));rcases List.mem_cons.1 hc with rfl | hc
 ·omega
 have:=hM c hc;omega
theorem I2(p:Pk)(h:H3)(W:World)(cd:aW bM.cl 2 W h.w.a h.w.n h.w.c p.wants)(hs:∀x∈p.wants,x.filter.length<=2000000):Calls prog 132 #[.agg (p.cells h).toArray] W (dD (dL p.wants (cI)) W):=by
 have wA:∀(fn:Fn)(first cap:Array Value)(w:World),(Instr.makeFunc fn first cap).run prog w=.ok (.func fn first cap) w:=fun _ _ _ _=>rfl;obtain⟨xc,cR⟩:=ae ((p.cells h).toArray);have hB:ar (W.alloc (.cells xc 52)) W.heap.size xc 52:=ar.new _ _ _;have hb:Below W.heap.size W (W.alloc (.cells xc 52)):=ai.alloc ah _;have ix:(prog.info? 52).map (·.size)=some xc.size:=by rw[<-cR];exact(by kernel_rfl:(prog.info? 52).map (·.size)=some 24)
 replace hb:=af hb;have k7:(W.alloc (.cells xc 52)).cell? ⟨W.heap.size,21,none⟩=some (.slice h.w.a h.w.n h.w.c):=by rw[hB.cell,<-cR];rfl
 have CF:=af (Be 134 #[] (cI) (cd.ag hb.out) (enters_of func134 (by kernel_rfl) rfl) (fun W' x hx _=>Pg x W' (hs x hx)));obtain⟨b,lN⟩:=ae (dL p.wants (cI));rw[lN]at CF ⊢;rw[cR];clear lN cR hB ix cd hs;go_enter func132,ntmps132;go_wp2_with fail
 refine CF.mono ?_;rintro e w1 ⟨rfl,hb1⟩;have HB:=af (hb.trans (hb1.mono hb.size));clear hb1;go_wp2_with fail;go_ret;exact⟨rfl,HB.out⟩
theorem I3(p:Pk)(h:H3)(W:World)(cd:aW jD 1 W h.c.a h.c.n h.c.c p.codes)(hs:∀x∈p.codes,True):Calls prog 143 #[.agg (p.cells h).toArray] W (dD (dL p.codes (cY)) W):=by
 have wA:∀(fn:Fn)(first cap:Array Value)(w:World),(Instr.makeFunc fn first cap).run prog w=.ok (.func fn first cap) w:=fun _ _ _ _=>rfl;obtain⟨xc,cR⟩:=ae ((p.cells h).toArray);have hB:ar (W.alloc (.cells xc 52)) W.heap.size xc 52:=ar.new _ _ _;have hb:Below W.heap.size W (W.alloc (.cells xc 52)):=ai.alloc ah _;have ix:(prog.info? 52).map (·.size)=some xc.size:=by rw[<-cR];exact(by kernel_rfl:(prog.info? 52).map (·.size)=some 24)
 replace hb:=af hb;have k7:(W.alloc (.cells xc 52)).cell? ⟨W.heap.size,22,none⟩=some (.slice h.c.a h.c.n h.c.c):=by rw[hB.cell,<-cR];rfl
 have CF:=af (Ej 145 #[] (cY) (cd.ag hb.out) (enters_of func145 (by kernel_rfl) rfl) (fun W' x hx _=>Pf x W'));obtain⟨b,lN⟩:=ae (dL p.codes (cY));rw[lN]at CF ⊢;rw[cR];clear lN cR hB ix cd hs;go_enter func143,ntmps143;go_wp2_with fail
 refine CF.mono ?_;rintro e w1 ⟨rfl,hb1⟩;have HB:=af (hb.trans (hb1.mono hb.size));clear hb1;go_wp2_with fail;go_ret;exact⟨rfl,HB.out⟩
theorem I4(p:Pk)(h:H3)(W:World)(cd:aW uV 1 W h.f.a h.f.n h.f.c p.filters)(hs:∀x∈p.filters,x.length<=2000000):Calls prog 151 #[.agg (p.cells h).toArray] W (dD (dL p.filters (bU)) W):=by
 have wA:∀(fn:Fn)(first cap:Array Value)(w:World),(Instr.makeFunc fn first cap).run prog w=.ok (.func fn first cap) w:=fun _ _ _ _=>rfl;obtain⟨xc,cR⟩:=ae ((p.cells h).toArray);have hB:ar (W.alloc (.cells xc 52)) W.heap.size xc 52:=ar.new _ _ _;have hb:Below W.heap.size W (W.alloc (.cells xc 52)):=ai.alloc ah _;have ix:(prog.info? 52).map (·.size)=some xc.size:=by rw[<-cR];exact(by kernel_rfl:(prog.info? 52).map (·.size)=some 24)
 replace hb:=af hb;have k7:(W.alloc (.cells xc 52)).cell? ⟨W.heap.size,23,none⟩=some (.slice h.f.a h.f.n h.f.c):=by rw[hB.cell,<-cR];rfl
 have CF:=af (Ek 135 #[] (bU) (cd.ag hb.out) (enters_of func135 (by kernel_rfl) rfl) (fun W' x hx _=>(oG x W' (hs x hx)).mono fun e w' h=>⟨h⟩));obtain⟨b,lN⟩:=ae (dL p.filters (bU));rw[lN]at CF ⊢;rw[cR];clear lN cR hB ix cd hs;go_enter func151,ntmps151;go_wp2_with fail
 refine CF.mono ?_;rintro e w1 ⟨rfl,hb1⟩;have HB:=af (hb.trans (hb1.mono hb.size));clear hb1;go_wp2_with fail;go_ret;exact⟨rfl,HB.out⟩
theorem fG(f:FuncId)(b:Nat)(q:Bool)(p:Pk)(h:H3)(W:World)(ef:gY f)(kI:Boxed W (b+2) 137 (bG f #[]))(hf:∀W',Below W.heap.size W W'->Calls prog f #[.agg (p.cells h).toArray] W' (dD q W')):
  Calls prog 183 #[.agg (p.cells h).toArray,.pointer (some ⟨b+2,0,none⟩)] W (dD (within p.id 1 65535&&q) W):=by
 have CW:=af (lF p.id 1 65535);obtain⟨xc,cR⟩:=ae ((p.cells h).toArray);have hB:ar (W.alloc (.cells xc 52)) W.heap.size xc 52:=ar.new _ _ _;have hb:Below W.heap.size W (W.alloc (.cells xc 52)):=ai.alloc ah _;have ix:(prog.info? 52).map (·.size)=some xc.size:=by rw[<-cR];exact(by kernel_rfl:(prog.info? 52).map (·.size)=some 24)
 replace hb:=af hb;rw[cR]at hf;have k6:(W.alloc (.cells xc 52)).cell? ⟨W.heap.size,6,none⟩=some (.int .i64 p.id):=by rw[hB.cell,<-cR];rfl
 have k2:(W.alloc (.cells xc 52)).cell? ⟨b+2,0,none⟩=some (bG f #[]):=(aF kI hb.out).cell;have CF:=af (hf _ hb.out);obtain⟨i,hi⟩:=ae p.id;rw[hi]at k6 CW ⊢;obtain⟨v,hv⟩:=ae (within i 1 65535);rw[hv]at CW ⊢;rw[cR];unfold bG at k2;unfold gY at ef;replace ix:=af ix;clear cR hi hv hf kI;go_enter func183,ntmps183;go_wp2_with fail
 refine(CW _).mono ?_;rintro e w1 ⟨rfl,rfl⟩;cases v with
 |false=>
  go_wp2_with fail
  go_ret;exact⟨rfl,hb.out⟩
 | true=>
  have tok:=af trivial;go_wp2_with (clear tok;refine LG 52 rfl rfl hB underlying52 rfl ?_ ix.out);refine CF.mono ?_;rintro e w2 ⟨rfl,hb2⟩;have HB:=af (hb.trans (hb2.mono hb.size));clear hb2;cases q<;>
  ·go_wp2_with fail
   go_ret;exact⟨rfl,HB.out⟩
theorem XJ(x:List UInt8)(W:World):(binOp .eql 9 (.string ⟨x.toArray⟩) (.string ⟨#[77,81,84,84]⟩)).run prog W=.ok (.bool (decide (x=gS))) W:=by
 go_simp;by_cases h:x=gS
 ·subst h;rfl
 simp[h];exact h
theorem XK(x:List UInt8)(s1 s2:Operand)(W:World):(eqGuard .eql 9 s1 s2 (.string ⟨x.toArray⟩) (.string ⟨#[77,81,84,84]⟩)).run prog W=.ok () W:=by go_simp
theorem Pl:∀f:Nat,f<256->decide (0<bits .and .i64 (f:Int) 128)=has f 128:=by decide+kernel
theorem TM:∀f:Nat,f<256->decide (0<bits .and .i64 (f:Int) 64)=has f 64:=by decide+kernel
theorem TN:∀f:Nat,f<256->decide (0<bits .and .i64 (f:Int) 32)=has f 32:=by decide+kernel
theorem XL:∀f:Nat,f<256->decide (0<bits .and .i64 (f:Int) 4)=has f 4:=by decide+kernel
theorem and_2:∀f:Nat,f<256->decide (0<bits .and .i64 (f:Int) 2)=has f 2:=by decide+kernel
theorem XM:∀f:Nat,f<256->bits .and .i64 ((f:Int) / 8) 3=((f / 8%4:Nat):Int):=by decide+kernel
theorem Pm(f:Nat)(l:List UInt8):cj 1 f l=oK l:=by unfold cj;rw[if_pos rfl]
structure I5 (w:World)(B p:Nat)(y:Pk)(r:List UInt8)(W:World):Prop where
 rd:Rd W B p r
 rb:ar W w.heap.size #[.pointer (some ⟨p,0,none⟩)] 161
 pk:ar W (w.heap.size+1) (y.cells bo).toArray 52
 wrote:ak [p] w W
 two:w.heap.size+2<=W.heap.size
theorem I5.read{w:World}{B p:Nat}{y:Pk}{r r':List UInt8}{W W':World}(h:I5 w B p y r W)(hp:p<w.heap.size)(hR:Rd W' B p r')(hw:ak [p] W W'):I5 w B p y r' W':=
 ⟨hR,h.rb.aw hw (by simp;omega),h.pk.aw hw (by simp;omega),h.wrote.trans hw,Nat.le_trans h.two hw.size⟩
theorem I5.put{w:World}{B p:Nat}{y y':Pk}{r:List UInt8}{W W':World}(h:I5 w B p y r W)(hB:B<=w.heap.size)(hk:ar W' (w.heap.size+1) (y'.cells bo).toArray 52)(hw:ak [w.heap.size+1] W W'):I5 w B p y' r W':=
 ⟨h.rd.wrote hw (by simp;omega),h.rb.aw hw (by simp),hk,h.wrote.fu hw (by simp),Nat.le_trans h.two hw.size⟩
theorem I5.drew{w:World}{B p:Nat}{y:Pk}{r:List UInt8}{W:World}(h:I5 w B p y r W):I5 w B p y r W.drew:=
 have hb:Below W.heap.size W W.drew:=(Below.refl _ W).drew
 ⟨h.rd.ag hb,h.rb.ag hb,h.pk.ag hb,h.wrote.trans (ak.aK hb),Nat.le_trans h.two hb.size⟩
theorem Eo(f0:Nat){w:World}{B p:Nat}{l:List UInt8}(h:Rd w B p l):Calls prog 203 #[.agg #[.pointer (some ⟨p,0,none⟩)],.int .i64 f0] w (Vi 1 f0 B p l w):=by
 have CM:=af qN;obtain⟨W0,hW0⟩:=ae (w.alloc (.cells #[.pointer (some ⟨p,0,none⟩)] 161));have s0:W0.heap.size=w.heap.size+1:=by rw[<-hW0];simp
 obtain⟨W1,hW1⟩:=ae (W0.alloc (.cells #[.int .i64 0,.bool false,.bool false,.int .i64 0,.string ⟨#[]⟩,.string ⟨#[]⟩,.int .i64 0,.string ⟨#[]⟩,.bool false,.int .i64 0,.bool false,.string ⟨#[]⟩,.string ⟨#[]⟩,.int .i64 0,.bool false,.bool false,.bool false,.string ⟨#[]⟩,.string ⟨#[]⟩,.bool false,.int .i64 0,.slice none 0 0,.slice none 0 0,.slice none 0 0] 52));have s1:W1.heap.size=w.heap.size+2:=by rw[<-hW1];simp;omega
 have b0:Below w.heap.size w W0:=by rw[<-hW0];exact ai.alloc ah _
 have b1:Below w.heap.size w W1:=by rw[<-hW1];exact b0.alloc b0.size _
 have x1:ar W1 w.heap.size #[.pointer (some ⟨p,0,none⟩)] 161:=by rw[<-hW1,<-hW0];exact(ar.new _ _ _).alloc _
 have z1:ar W1 (w.heap.size+1) bF 52:=by have:=ar.new W0 bF 52;rw[show W0.alloc (.cells bF 52)=W1 from hW1,s0]at this;exact this
 have R1:=h.ag b1;have K1:ak [p] w W1:=ak.aK b1;have kF:=h.lt;have mF:=h.base;clear h b0;have Ic:p<w.heap.size:=by omega
 have iq:Hid (cj 1 f0 l=oK l):=af (Pm f0 l);unfold oK at iq;have HI:=af (show I5 w B p (aN 0) l W1 from⟨R1,x1,z1,K1,by omega⟩);have CX:=af (ju R1);clear R1 z1 K1 b1;go_enter func203,ntmps203;go_wp2_with (refine wL 161 rfl rfl x1 underlying161 ?_)
 refine CX.mono ?_;rintro e w2 (⟨hno,rfl,hw2⟩ | ⟨⟨s,r⟩,hx,rfl,R2,hw2⟩)
 ·refine⟨rfl,HI.wrote.trans hw2,.inl ⟨?_,rfl⟩⟩;rw[iq,hno];rfl
 dsimp only at R2 ⊢;have TQ:=af (HI.read Ic R2 hw2);rw[hx,Option.bind_some]at iq;dsimp only at iq;obtain⟨sv,eQ⟩:=ae (Value.string ⟨s.toArray⟩);have EM:=XJ s;have GM:=XK s;rw[eQ]at EM GM ⊢;have x2:=TQ.rb;have eQ:=af eQ;clear hw2 R2 x1 HI hx CX;by_cases hm:s=gS
 ·rw[decide_eq_true hm]at EM;rw[if_neg (by simpa using hm)]at iq;clear hm;have CN:=af (eV TQ.rd 1 (by decide) (by decide));go_wp2_with (refine Ar 161 rfl rfl (TQ.rb.mid [] [.pointer (some ⟨p,0,none⟩)] [] rfl) underlying161 ?_)
  refine CN.mono ?_;rintro e w3 (⟨hno,rfl,hw3⟩ | ⟨⟨v,r3⟩,hx,rfl,R3,hw3⟩)
  ·refine⟨rfl,TQ.wrote.trans hw3,.inl ⟨?_,rfl⟩⟩;rw[iq,hno];rfl
  dsimp only at R3 ⊢;have nB:=af (TQ.read Ic R3 hw3);rw[hx,Option.bind_some]at iq;dsimp only at iq;clear hw3 R3 hx TQ CN EM GM x2;by_cases h4:v=4
  ·subst h4;rw[if_neg (by simp)]at iq;have CN:=af (eV nB.rd 1 (by decide) (by decide));have x3:=nB.rb;go_wp2_with (first
    | (go_at_call 95;refine(CM _ _).mono ?_;rintro e w9 ⟨rfl,rfl⟩)
    | (refine wL 161 rfl rfl x3 underlying161 ?_))
   refine CN.mono ?_;rintro e w4 (⟨hno,rfl,hw4⟩ | ⟨⟨fn,r4⟩,hx,rfl,R4,hw4⟩)
   ·refine⟨rfl,nB.wrote.trans hw4,.inl ⟨?_,rfl⟩⟩;rw[iq,hno];rfl
   dsimp only at R4 ⊢;have HI4:=af (nB.read Ic R4 hw4);have hfn:fn<256:=by have:=(bN hx).2;simpa using this
   rw[hx,Option.bind_some]at iq;dsimp only at iq;clear hw4 R4 hx nB CN x3;have TR:=Pl fn hfn;have e64:=TM fn hfn;have XN:=TN fn hfn;have e4:=XL fn hfn;have e2:=and_2 fn hfn;have eq:=XM fn hfn;obtain⟨z,hz⟩:=ae ((fn:Int):Int);obtain⟨bu,Nv⟩:=ae (has fn 128);obtain⟨bp,JH⟩:=ae (has fn 64);obtain⟨br,hbr⟩:=ae (has fn 32);obtain⟨bw,mH⟩:=ae (has fn 4);obtain⟨bc,o0⟩:=ae (has fn 2);obtain⟨q,hq⟩:=ae (((fn / 8%4:Nat):Int):Int);have oF:Hid (0<=q/\q<=3):=af (by omega);have hz0:0<=z:=by omega
   have hz1:z<256:=by omega
   rw[hz]at TR e64 XN e4 e2 eq ⊢;rw[Nv]at TR iq;rw[JH]at e64 iq;rw[hbr]at XN iq;rw[mH]at e4 iq;rw[o0]at e2 iq;rw[hq]at eq iq;replace hz:=af hz;replace hfn:=af hfn;clear Nv JH hbr mH o0 hq;have p4:=HI4.pk;have t1:=af trivial;have t2:=af trivial;have t3:=af trivial;have t4:=af trivial;have t5:=af trivial;have t6:=af trivial;obtain⟨c0,hc0⟩:=ae (((aN 0).cells bo).toArray);have hs0:Hid (c0.size=24):=af (by rw[<-hc0];rfl);rw[hc0]at p4;have hc0:=af hc0;go_upto_region 5 with(first
    | (clear t1;refine aq rfl 4 52 _ _ rfl (fun w=>by kernel_rfl) (w.heap.size+1) 15 c0 (.bool bu) rfl rfl p4 (by rw[hs0];decide) rfl rfl ?_;intro v1 q1 y1)
    | (clear t2;refine aq rfl 4 52 _ _ rfl (fun w=>by kernel_rfl) (w.heap.size+1) 16 _ (.bool bp) rfl rfl q1 (by simp[hs0.out]) rfl rfl ?_;intro v2 q2 y2)
    | (clear t3;refine aq rfl 4 52 _ _ rfl (fun w=>by kernel_rfl) (w.heap.size+1) 14 _ (.bool br) rfl rfl q2 (by simp[hs0.out]) rfl rfl ?_;intro v3 q3 y3)
    | (clear t4;refine aq rfl 4 52 _ _ rfl (fun w=>by kernel_rfl) (w.heap.size+1) 10 _ (.bool bw) rfl rfl q3 (by simp[hs0.out]) rfl rfl ?_;intro v4 q4 y4)
    | (clear t5;refine aq rfl 4 52 _ _ rfl (fun w=>by kernel_rfl) (w.heap.size+1) 8 _ (.bool bc) rfl rfl q4 (by simp[hs0.out]) rfl rfl ?_;intro v5 q5 y5)
    | (clear t6;refine aq rfl 3 52 _ _ rfl (fun w=>by kernel_rfl) (w.heap.size+1) 13 _ (.int .i64 q) rfl rfl q5 (by simp[hs0.out]) rfl rfl ?_;intro v6 q6 y6_))
   obtain⟨y6,Mi⟩:∃y:Pk,({aN 0 with hasUser:=bu,hasPass:=bp,hasWill:=bw,clean:=bc,will:=⟨[],[],q,br⟩}:Pk)=y:=⟨_,rfl⟩;have HI5:=af (HI4.put (y':=y6) (by omega) (by rw[<-Mi];rw[<-hc0.out]at q6;exact q6) (((((y1.trans y2).trans y3).trans y4).trans y5).trans y6_));have Mi:=af Mi;clear q1 q2 q3 q4 q5 q6 y1 y2 y3 y4 y5 y6_ p4 HI4 TR e64 XN e4 e2 eq hs0;have HD:=HI5.drew;clear HI5;try simp only[PT]
   refine lS [(1000,fun w'=>ar w' w.heap.size #[.pointer (some ⟨p,0,none⟩)] 161)] ?_ (by kernel_rfl) ⟨HD.rb,trivial⟩ fun KQ aL=>?_
   ·intro c a d v w h;cases d<;>exact h
   try simp only[PT]
   obtain⟨WD,di⟩:=ae v6.drew;rw[di]at HD ⊢;refine aG 0 rfl (by kernel_rfl) (by kernel_rfl) rfl rfl 0 rfl (by kernel_rfl) (.agg #[.pointer (some ⟨p,0,none⟩)]) (fun w' hf=>by(exact aM hf 161 underlying161 rfl (by kernel_rfl))) ?_;simp only[PT];refine aG 2 rfl (by kernel_rfl) (by kernel_rfl) rfl rfl 0 rfl (by kernel_rfl) (.agg #[.pointer (some ⟨p,0,none⟩)]) (fun w' hf=>by(exact aM hf 161 underlying161 rfl (by kernel_rfl))) ?_;simp only[PT];refine sQ 1 fun K hK=>?_;simp only[GO];go_simp;refine(eV HD.rd 2 (by decide) (by decide)).mono ?_;rintro e w5 (⟨hno,rfl,eo⟩ | ⟨⟨kn,r5⟩,hx,rfl,R5,eo⟩)
   ·refine aL.out _ _ _ ?_;refine⟨rfl,HD.wrote.trans eo,.inl ⟨?_,rfl⟩⟩;rw[iq,hno];rfl
   dsimp only at R5 ⊢;rw[hx,Option.bind_some]at iq;dsimp only at iq;have H5:=HD.read Ic R5 eo;refine hK _ _ ⟨⟨fun _=>H5.rb,trivial⟩,?_⟩;clear hK K hx eo R5;try simp only[PT]
   refine tQ [4] ?_;refine sQ 3 fun K hK=>?_;simp only[GO];go_simp;refine(ju H5.rd).mono ?_;rintro e w6 (⟨hno,rfl,kh⟩ | ⟨⟨cl,r6⟩,hx,rfl,R6,kh⟩)
   ·refine aL.out _ _ _ ?_;refine⟨rfl,H5.wrote.trans kh,.inl ⟨?_,rfl⟩⟩;rw[iq,hno];rfl
   dsimp only at R6 ⊢;rw[hx,Option.bind_some]at iq;dsimp only at iq;have H6:=H5.read Ic R6 kh;refine hK _ _ ⟨⟨fun _=>H6.rb,trivial⟩,?_⟩;clear hK K hx kh R6;try simp only[PT]
   refine sQ 5 fun K hK=>?_;simp only[GO];refine aC 2 52 _ _ rfl (fun w=>by kernel_rfl) (w.heap.size+1) 9 _ (.int .i64 (kn:Int)) rfl rfl H6.pk (by show 9<24;decide) rfl rfl fun w7 k7 gZ=>?_;have H7:=H6.put (y':={y6 with keep:=(kn:Int)}) (by omega) k7 gZ;refine hK _ _ ⟨⟨fun _=>H7.rb,trivial⟩,?_⟩;clear hK K k7 gZ;try simp only[PT]
   refine tQ [6] ?_;refine sQ 7 fun K hK=>?_;simp only[GO];refine aC 9 52 _ _ rfl (fun w=>by kernel_rfl) (w.heap.size+1) 7 _ (.string ⟨cl.toArray⟩) rfl rfl H7.pk (by show 7<24;decide) rfl rfl fun w8 k8 rT=>?_;have H8:=H7.put (y':={y6 with keep:=(kn:Int),client:=cl}) (by omega) k8 rT;refine hK _ _ ⟨⟨fun _=>H8.rb,trivial⟩,?_⟩;clear hK K k8 rT;try simp only[PT]
   refine dQ (aL.out _ _ _ ?_);clear aL KQ HD H5 H6 H7 di;obtain⟨y8,Mj⟩:∃y:Pk,({y6 with keep:=(kn:Int),client:=cl}:Pk)=y:=⟨_,rfl⟩;rw[Mj]at H8;replace Mj:=af Mj;have H8:=af H8;have rT:Hid (y8.hasWill=bw):=af (by rw[<-Mj.out,<-Mi.out]);have gI:w8.cell? ⟨w.heap.size+1,10,none⟩=some (.bool bw):=by rw[<-rT];exact H8.pk.cell 10
   have Mk:Hid (({y8 with will:=⟨[],[],q,br⟩}:Pk)=y8):=af (by rw[<-Mj.out,<-Mi.out]);go_upto_if 50 with fail
   try simp only[PT]
   go_cut []from 51 to 58 (fun wx=>∃(wt wb r:List UInt8),Hid (dm bw ([],[]) oq r6=some ((wt,wb),r))/\Hid (I5 w B p {y8 with will:=⟨wt,wb,q,br⟩} r wx))
   case first=>
    cases bw with
    |false=>
     go_wp2_with fail
     go_meet
     case rel=>exact⟨[],[],r6,af rfl,af (by rw[Mk];exact H8.out)⟩
    | true=>
     go_upto_region 7 with fail
     try simp only[PT]
     have HD:=H8.drew;refine lS [(1000,fun w'=>ar w' w.heap.size #[.pointer (some ⟨p,0,none⟩)] 161)] ?_ (by kernel_rfl) ⟨HD.rb,trivial⟩ fun KQ aL=>?_
     ·intro c a d v w h;cases d<;>exact h
     try simp only[PT]
     obtain⟨WD,di⟩:=ae w8.drew;rw[di]at HD ⊢;refine aG 0 rfl (by kernel_rfl) (by kernel_rfl) rfl rfl 0 rfl (by kernel_rfl) (.agg #[.pointer (some ⟨p,0,none⟩)]) (fun w' hf=>by(exact aM hf 161 underlying161 rfl (by kernel_rfl))) ?_;simp only[PT];refine aG 2 rfl (by kernel_rfl) (by kernel_rfl) rfl rfl 0 rfl (by kernel_rfl) (.agg #[.pointer (some ⟨p,0,none⟩)]) (fun w' hf=>by(exact aM hf 161 underlying161 rfl (by kernel_rfl))) ?_;simp only[PT];refine sQ 1 fun K hK=>?_;simp only[GO];go_simp;refine(ju HD.rd).mono ?_;rintro e w9 (⟨hno,rfl,cC⟩ | ⟨⟨wt,r9⟩,SR,rfl,R9,cC⟩)
     ·refine aL.out _ _ _ ?_;refine⟨rfl,HD.wrote.trans cC,.inl ⟨?_,rfl⟩⟩;rw[iq.out,show dm true ([],[]) oq r6=none from by unfold dm oq;rw[if_pos rfl,hno];rfl];rfl
     dsimp only at R9 ⊢;have H9:=HD.read Ic R9 cC;refine hK _ _ ⟨⟨fun _=>H9.rb,trivial⟩,?_⟩;clear hK K cC R9;try simp only[PT]
     refine tQ [4,5] ?_;refine sQ 3 fun K hK=>?_;simp only[GO];go_simp;refine(ju H9.rd).mono ?_;rintro e FD (⟨hno,rfl,jq⟩ | ⟨⟨wb,r10⟩,Li,rfl,R10,jq⟩)
     ·refine aL.out _ _ _ ?_;refine⟨rfl,H9.wrote.trans jq,.inl ⟨?_,rfl⟩⟩;rw[iq.out,show dm true ([],[]) oq r6=none from by unfold dm oq;rw[if_pos rfl,SR,Option.bind_some];dsimp only;rw[hno];rfl];rfl
     dsimp only at R10 ⊢;have Bl:=H9.read Ic R10 jq;refine hK _ _ ⟨⟨fun _=>Bl.rb,trivial⟩,?_⟩;clear hK K jq R10;try simp only[PT]
     refine sQ 6 fun K hK=>?_;simp only[GO];rw[<-Mk]at Bl;refine aC 9 52 _ _ rfl (fun w=>by kernel_rfl) (w.heap.size+1) 11 _ (.string ⟨wt.toArray⟩) rfl rfl Bl.pk (by show 11<24;decide) rfl rfl fun wO Gd fZ=>?_;have Ep:=Bl.put (y':={y8 with will:=⟨wt,[],q,br⟩}) (by omega) Gd fZ;refine hK _ _ ⟨⟨fun _=>Ep.rb,trivial⟩,?_⟩;clear hK K Gd fZ;try simp only[PT]
     refine tQ [7,8] ?_;refine sQ 9 fun K hK=>?_;simp only[GO];refine aC 9 52 _ _ rfl (fun w=>by kernel_rfl) (w.heap.size+1) 12 _ (.string ⟨wb.toArray⟩) rfl rfl Ep.pk (by show 12<24;decide) rfl rfl fun FE Pn XO=>?_;have H12:=Ep.put (y':={y8 with will:=⟨wt,wb,q,br⟩}) (by omega) Pn XO;refine hK _ _ ⟨⟨fun _=>H12.rb,trivial⟩,?_⟩;clear hK K Pn XO;try simp only[PT]
     refine dQ (aL.out _ _ _ ?_);have HE:=af H12;have hro:Hid (dm true ([],[]) oq r6=some ((wt,wb),r10)):=af (by unfold dm oq;rw[if_pos rfl,SR,Option.bind_some];dsimp only;rw[Li];rfl);clear aL KQ HD H9 Bl Ep di SR Li H12;go_wp2_with fail;go_meet
     case rel=>exact⟨wt,wb,r10,hro,HE⟩
   case rest=>
    obtain⟨wt,wb,r7,hro,H9⟩:=hcut;obtain⟨wx,hwx⟩:=ae wc;rw[hwx]at H9 ⊢;rw[hro,Option.bind_some]at iq;dsimp only at iq;clear hwx hro H8 gI rT Mk;obtain⟨y9,Ny⟩:∃y:Pk,({y8 with will:=⟨wt,wb,q,br⟩}:Pk)=y:=⟨_,rfl⟩;rw[Ny]at H9;replace Ny:=af Ny;have Fz:wx.cell? ⟨w.heap.size+1,15,none⟩=some (.bool bu):=by rw[show Value.bool bu=.bool y9.hasUser by rw[<-Ny.out,<-Mj.out,<-Mi.out]];exact H9.out.pk.cell 15
    go_upto_if 60 with fail
    try simp only[PT]
    have QZ:Hid (({y9 with user:=[]}:Pk)=y9):=af (by rw[<-Ny.out,<-Mj.out,<-Mi.out];rfl);go_cut []from 61 to 63 (fun wx=>∃(us r:List UInt8),Hid (dm bu [] bC r7=some (us,r))/\Hid (I5 w B p {y9 with user:=us} r wx))
    case first=>
     cases bu with
     |false=>
      go_wp2_with fail
      go_meet
      case rel=>exact⟨[],r7,af rfl,af (by rw[QZ];exact H9.out)⟩
     | true=>
      have CT:=af (ju H9.out.rd);have xx:=H9.out.rb;go_wp2_with (refine wL 161 rfl rfl xx underlying161 ?_)
      refine CT.mono ?_;rintro e Er (⟨hno,rfl,vH⟩ | ⟨⟨us,XP⟩,Ml,rfl,TS,vH⟩)
      ·refine⟨rfl,H9.out.wrote.trans vH,.inl ⟨?_,rfl⟩⟩;rw[iq.out,show dm true [] bC r7=none from by unfold dm;rw[if_pos rfl,hno]];rfl
      dsimp only at TS ⊢;have XQ:=af (H9.out.read Ic TS vH);have QA:=XQ.pk;have hro:Hid (dm true [] bC r7=some (us,XP)):=af (by unfold dm;rw[if_pos rfl,Ml]);obtain⟨cy,Po⟩:=ae ((y9.cells bo).toArray);have hcs:Hid (cy.size=24):=af (by rw[<-Po];rfl);have iU:Hid (cy.setIfInBounds 17 (.string ⟨us.toArray⟩)=(({y9 with user:=us}:Pk).cells bo).toArray):=af (by rw[<-Po];rfl);rw[Po]at QA;clear vH TS Ml xx CT Po;go_wp2_with (refine aq rfl 9 52 _ _ rfl (fun w=>by kernel_rfl) (w.heap.size+1) 17 cy (.string ⟨us.toArray⟩) rfl rfl QA (by rw[hcs];decide) rfl rfl ?_;intro Q1 Es Et);rw[iU]at Es;have HE:=af (XQ.put (y':={y9 with user:=us}) (by omega) Es Et);clear Es Et QA;go_meet
      case rel=>exact⟨us,XP,hro,HE⟩
    case rest=>
     obtain⟨us,r8,hro,Bl⟩:=hcut;obtain⟨wz,hwz⟩:=ae wc;rw[hwz]at Bl ⊢;rw[hro,Option.bind_some]at iq;dsimp only at iq;clear hwz hro H9 Fz QZ;obtain⟨D3,Bn⟩:∃y:Pk,({y9 with user:=us}:Pk)=y:=⟨_,rfl⟩;rw[Bn]at Bl;replace Bn:=af Bn;have yC:wz.cell? ⟨w.heap.size+1,16,none⟩=some (.bool bp):=by rw[show Value.bool bp=.bool D3.hasPass by rw[<-Bn.out,<-Ny.out,<-Mj.out,<-Mi.out]];exact Bl.out.pk.cell 16
     have Q2:Hid (({D3 with pass:=[]}:Pk)=D3):=af (by rw[<-Bn.out,<-Ny.out,<-Mj.out,<-Mi.out];rfl);go_upto_if 65 with fail
     try simp only[PT]
     go_cut []from 66 to 68 (fun wx=>∃(us r:List UInt8),Hid (dm bp [] bC r8=some (us,r))/\Hid (I5 w B p {D3 with pass:=us} r wx))
     case first=>
      cases bp with
      |false=>
       go_wp2_with fail
       go_meet
       case rel=>exact⟨[],r8,af rfl,af (by rw[Q2];exact Bl.out)⟩
      | true=>
       have CT:=af (ju Bl.out.rd);have xx:=Bl.out.rb;go_wp2_with (refine wL 161 rfl rfl xx underlying161 ?_)
       refine CT.mono ?_;rintro e Er (⟨hno,rfl,vH⟩ | ⟨⟨us,XP⟩,Ml,rfl,TS,vH⟩)
       ·refine⟨rfl,Bl.out.wrote.trans vH,.inl ⟨?_,rfl⟩⟩;rw[iq.out,show dm true [] bC r8=none from by unfold dm;rw[if_pos rfl,hno]];rfl
       dsimp only at TS ⊢;have XQ:=af (Bl.out.read Ic TS vH);have QA:=XQ.pk;have hro:Hid (dm true [] bC r8=some (us,XP)):=af (by unfold dm;rw[if_pos rfl,Ml]);obtain⟨cy,Po⟩:=ae ((D3.cells bo).toArray);have hcs:Hid (cy.size=24):=af (by rw[<-Po];rfl);have iU:Hid (cy.setIfInBounds 18 (.string ⟨us.toArray⟩)=(({D3 with pass:=us}:Pk).cells bo).toArray):=af (by rw[<-Po];rfl);rw[Po]at QA;clear vH TS Ml xx CT Po;go_wp2_with (refine aq rfl 9 52 _ _ rfl (fun w=>by kernel_rfl) (w.heap.size+1) 18 cy (.string ⟨us.toArray⟩) rfl rfl QA (by rw[hcs];decide) rfl rfl ?_;intro Q1 Es Et);rw[iU]at Es;have HE:=af (XQ.put (y':={D3 with pass:=us}) (by omega) Es Et);clear Es Et QA;go_meet
       case rel=>exact⟨us,XP,hro,HE⟩
     case rest=>
      obtain⟨ps,r9,hro,Ep⟩:=hcut;obtain⟨wv,hwv⟩:=ae wc;rw[hwv]at Ep ⊢;rw[hro,Option.bind_some]at iq;dsimp only at iq;clear hwv hro Bl yC Q2;obtain⟨yF,Vj⟩:∃y:Pk,({D3 with pass:=ps}:Pk)=y:=⟨_,rfl⟩;rw[Vj]at Ep;have QC:yF.will.qos=q:=by rw[<-Vj,<-Bn.out,<-Ny.out]
      have iK:Hid (cj 1 f0 l=if fn=dT yF then some ({yF with kind:=1},r9)else none):=af (by rw[iq,<-Vj,<-Bn.out,<-Ny.out,<-Mj.out,<-Mi.out];rfl)
      have CC:=af (sP yF bo wv (by rw[QC];exact oF.out));obtain⟨yc,eE⟩:=ae ((yF.cells bo).toArray);have O6:Hid (∀v∈yc.toList,v.oneCell'=true):=af (by rw[<-eE];exact Pk.one yF bo);have jE:Hid (yc.size=24):=af (by rw[<-eE];rfl);have iy:Hid ((prog.info? 52).map (·.size)=some yc.size):=af (by rw[jE];exact(by kernel_rfl:(prog.info? 52).map (·.size)=some 24));have pF:=Ep.out.pk;have hnil:Hid (yF.wants=[]/\yF.codes=[]/\yF.filters=[]):=af (by rw[<-Vj,<-Bn.out,<-Ny.out,<-Mj.out,<-Mi.out];exact⟨rfl,rfl,rfl⟩);rw[eE]at pF CC;replace eE:=af eE;replace Vj:=af Vj;obtain⟨cz,dR⟩:=ae (((dT yF:Nat):Int):Int);rw[dR]at CC;clear iq QC;go_wp2_with (refine wL 52 rfl rfl pF underlying52 ?_ rfl rfl iy.out);refine CC.mono ?_;rintro e FE ⟨rfl,nr⟩;have HJ:=af (Ep.out.read Ic (Ep.out.rd.ag nr) (ak.aK nr));have pG:=HJ.pk;rw[eE.out]at pG;clear nr pF Ep;by_cases hc:z=cz
      ·have d:(z==cz)=true:=by simpa using hc
       have TV:Hid (fn=dT yF):=af (by have:=hz.out;omega);clear hc dR;go_wp2_with (first
        | (go_at_call 95;refine(CM _ _).mono ?_;rintro e w9 ⟨rfl,rfl⟩)
        | (refine wL 52 rfl rfl pG underlying52 ?_ rfl rfl iy.out)
        | (refine wS 52 24 rfl (w.heap.size+1) yc yc rfl rfl pG jE.out jE.out O6.out ?_;intro zm Ia XT))
       refine bodyPost_ret (aJ results203 rfl (aj Ia 52 underlying52 rfl iy.out)) rfl ?_;refine⟨HJ.wrote.fu XT (by simp),.inr ⟨yF,bo,r9,?_,by rw[eE.out],HJ.rd.wrote XT (by simp;omega),fun M _=>vE.zero _ _ hnil.out M⟩⟩;rw[iK,if_pos TV.out]
      have d:(z==cz)=false:=by simpa using hc
      have TV:Hid (fn≠dT yF):=af (by have:=hz.out;omega);clear hc dR;go_wp2_with (go_at_call 95;refine(CM _ _).mono ?_;rintro e w9 ⟨rfl,rfl⟩);refine⟨rfl,HJ.wrote,.inl ⟨?_,rfl⟩⟩;rw[iK,if_neg TV.out]
  have d:((v:Int)==4)=false:=by rw[beq_eq_false_iff_ne];omega
  rw[if_pos h4]at iq;obtain⟨zv,hzv⟩:=ae ((v:Int):Int);rw[hzv]at d ⊢;clear hzv h4;go_wp2_with (go_at_call 95;refine(CM _ _).mono ?_;rintro e w9 ⟨rfl,rfl⟩);exact⟨rfl,nB.wrote,.inl ⟨iq.out,rfl⟩⟩
 rw[decide_eq_false hm]at EM;rw[if_pos hm]at iq;go_wp2_with (go_at_call 95;refine(CM _ _).mono ?_;rintro e w9 ⟨rfl,rfl⟩)
 exact⟨rfl,TQ.wrote,.inl ⟨iq.out,rfl⟩⟩
theorem Mm(W:World)(B p rb:Nat)(l:List UInt8)(hR:Rd W B p l)(hb:ar W rb #[.pointer (some ⟨p,0,none⟩)] 161):Calls prog 149 #[.pointer (some ⟨rb,0,none⟩)] W (xM cm qD B p l W):=by
 have CN:=af (eV hR 1 (by decide) (by decide));go_enter func149,ntmps149;go_wp2_with (refine wL 161 rfl rfl hb underlying161 ?_)
 refine CN.mono ?_;rintro e w1 (⟨hx,rfl,bL⟩ | ⟨x,hx,rfl,jP,bL⟩)
 ·exact⟨rfl,.inl ⟨by unfold cm;rw[hx];rfl,rfl,bL⟩⟩
 have H:=af (show xM cm qD B p l W (.returned (.int .i64 x.1)) w1 from .inr ⟨((x.1:Int),x.2),by unfold cm;rw[hx];rfl,rfl,jP,bL⟩);clear hx jP bL;go_wp2_with fail;go_ret;exact H.out
theorem Mn(W:World)(B p rb:Nat)(l:List UInt8)(hR:Rd W B p l)(hb:ar W rb #[.pointer (some ⟨p,0,none⟩)] 161)(iq:rb≠p):Calls prog 140 #[.pointer (some ⟨rb,0,none⟩)] W (xM dB vP B p l W):=by
 obtain⟨W0,hW0⟩:=ae (W.alloc (.cells #[.string ⟨#[]⟩,.int .i64 0] 169));have b0:Below W.heap.size W W0:=by rw[<-hW0];exact ai.alloc ah _
 have z0:ar W0 W.heap.size #[.string ⟨#[]⟩,.int .i64 0] 169:=by rw[<-hW0];exact ar.new _ _ _
 have R0:=hR.ag b0;have X0:=hb.ag b0;have K0:ak [p] W W0:=ak.aK b0;have kF:=hR.lt;have mF:=hR.base;have uj:=hb.lt;clear hb hR b0;go_enter func140,ntmps140;go_upto_region 1 with fail
 have xD:ar W0.drew rb #[.pointer (some ⟨p,0,none⟩)] 161:=X0;have zD:ar W0.drew W.heap.size #[.string ⟨#[]⟩,.int .i64 0] 169:=z0;have RD:Rd W0.drew B p l:=R0.ag ((Below.refl _ W0).drew);have KD:ak [p] W W0.drew:=K0.trans (ak.aK ((Below.refl _ W0).drew));refine lS [(1000,fun w'=>ar w' rb #[.pointer (some ⟨p,0,none⟩)] 161)] ?_ (by kernel_rfl) ⟨xD,trivial⟩ fun KQ aL=>?_
 ·intro c a d v w h;cases d<;>exact h
 try simp only[PT]
 obtain⟨WD,di⟩:=ae W0.drew;rw[di]at xD zD RD KD ⊢;refine aG 0 rfl (by kernel_rfl) (by kernel_rfl) rfl rfl 0 rfl (by kernel_rfl) (.agg #[.pointer (some ⟨p,0,none⟩)]) (fun w' hf=>by(exact aM hf 161 underlying161 rfl (by kernel_rfl))) ?_;simp only[PT];refine aG 2 rfl (by kernel_rfl) (by kernel_rfl) rfl rfl 0 rfl (by kernel_rfl) (.agg #[.pointer (some ⟨p,0,none⟩)]) (fun w' hf=>by(exact aM hf 161 underlying161 rfl (by kernel_rfl))) ?_;simp only[PT];refine sQ 1 fun K hK=>?_;simp only[GO];go_simp;refine(ju RD).mono ?_;rintro e w1 (⟨hno,rfl,bL⟩ | ⟨⟨s,r1⟩,hx1,rfl,R1,bL⟩)
 ·refine aL.out _ _ _ ?_;refine⟨rfl,.inl ⟨?_,rfl,KD.trans bL⟩⟩;unfold dB;rw[hno];rfl
 dsimp only at R1 ⊢;have x1:=xD.aw bL (by simpa using iq);have z1:=zD.aw bL (by simp;omega);have K1:=KD.trans bL;refine hK _ _ ⟨⟨fun _=>x1,trivial⟩,?_⟩;clear hK K;try simp only[PT]
 refine sQ 3 fun K hK=>?_;simp only[GO];go_simp;refine(eV R1 1 (by decide) (by decide)).mono ?_;rintro e w2 (⟨hno,rfl,hw2⟩ | ⟨⟨q,r2⟩,hx2,rfl,R2,hw2⟩)
 ·refine aL.out _ _ _ ?_;refine⟨rfl,.inl ⟨?_,rfl,K1.trans hw2⟩⟩;unfold dB;rw[hx1,Option.bind_some];dsimp only;rw[hno];rfl
 dsimp only at R2 ⊢;have x2:=x1.aw hw2 (by simpa using iq);have z2:=z1.aw hw2 (by simp;omega);have K2:=K1.trans hw2;refine hK _ _ ⟨⟨fun _=>x2,trivial⟩,?_⟩;clear hK K;try simp only[PT]
 refine tQ [4] ?_;refine sQ 5 fun K hK=>?_;simp only[GO];refine wW 169 2 rfl W.heap.size #[.string ⟨#[]⟩,.int .i64 0] #[.string ⟨s.toArray⟩,.int .i64 (q:Int)] rfl rfl z2 rfl rfl (by simp[Value.oneCell']) fun w3 z3 hw3=>?_;have x3:=x2.aw hw3 (by simp;omega);refine hK _ _ ⟨⟨fun _=>x3,trivial⟩,?_⟩;clear hK K;try simp only[PT]
 refine dQ (aL.out _ _ _ ?_);go_wp2_with fail
 refine bodyPost_ret (aJ results140 rfl (aj z3 169 underlying169 rfl (by kernel_rfl))) rfl ?_;refine .inr ⟨(⟨s,(q:Int)⟩,r2),?_,rfl,R2.wrote hw3 (by simp;omega),K2.fu hw3 (by simp)⟩;unfold dB;rw[hx1,Option.bind_some];dsimp only;rw[hx2];rfl
theorem wX(W:World)(B p tb:Nat)(id:Int)(l:List UInt8)(hR:Rd W B p l)(hL:l.length<=65536)(hb:ar W tb (({aN 0 with id:=id}:Pk).cells bo).toArray 52)(hB:B<=tb):
  Calls prog 138 #[.agg #[.pointer (some ⟨p,0,none⟩)],.pointer (some ⟨tb,0,none⟩)] W (QY (fun id l=>(cx dB l.length l).bind fun ws=>some ({aN 0 with id:=id,wants:=ws},[])) id B p tb l W):=by
 have wA:∀(fn:Fn)(first cap:Array Value)(w:World),(Instr.makeFunc fn first cap).run prog w=.ok (.func fn first cap) w:=fun _ _ _ _=>rfl;obtain⟨W0,hW0⟩:=ae (W.alloc (.cells #[.pointer (some ⟨p,0,none⟩)] 161));have b0:Below W.heap.size W W0:=by rw[<-hW0];exact ai.alloc ah _
 have s0:W0.heap.size=W.heap.size+1:=by rw[<-hW0];simp
 have x0:ar W0 W.heap.size #[.pointer (some ⟨p,0,none⟩)] 161:=by rw[<-hW0];exact ar.new _ _ _
 have T0:=af (hb.ag b0);have K0:Hid (ak [p,tb] W W0):=af (ak.aK b0);have kF:=hR.lt;have mF:=hR.base;have sB:=af hb.lt;have hf:gY 140:=enters_of func140 (by kernel_rfl) rfl;have CT:=af (A7 140 #[.pointer (some ⟨W.heap.size,0,none⟩)] dB (fun l x r h=>DC h) (hR.ag b0) hL [W.heap.size] (by simp;omega) (by simpa using x0) hf (fun W1 l1 h1 h2=>Mn W1 B p W.heap.size l1 h1 (h2 _ (by simp)) (by omega)));clear hb b0 hR;go_enter func138,ntmps138;go_wp2_with (refine wL 161 rfl rfl x0 underlying161 ?_)
 refine CT.mono ?_;rintro e w1 ⟨bL,⟨hno,rfl⟩ | ⟨xs,v,rH,rfl,R1,ho⟩⟩
 ·exact⟨rfl,K0.trans (bL.sub (by simp)),.inl ⟨by rw[hno];rfl,rfl⟩⟩
 obtain⟨av,cv,rfl⟩:=aA ho;have T1:=T0.aw bL (by simp;omega);have K1:=af (K0.trans (bL.sub (by simp)));have rH:=af rH;have HO:=af ho;have R1:=af R1;have s1:=af bL.size;clear bL x0 ho;obtain⟨n,hn⟩:=ae xs.length;rw[hn]at HO ⊢;have hn:=af hn;obtain⟨tc,pT⟩:∃tc,(({aN 0 with id:=id}:Pk).cells bo).toArray=tc:=⟨_,rfl⟩;have Dm:Hid (tc.size=24):=af (by rw[<-pT];rfl);have LP:Hid (tc.setIfInBounds 21 (.slice av n cv)=(({aN 0 with id:=id,wants:=xs}:Pk).cells ⟨⟨av,n,cv⟩,bQ,bQ⟩).toArray):=af (by rw[<-pT];rfl);rw[pT]at T1;clear pT T0;go_wp2_with (refine aq rfl 48 52 _ _ rfl (fun w=>by kernel_rfl) tb 21 tc (.slice av n cv) rfl rfl T1 (by rw[Dm];decide) rfl rfl ?_;intro w3 hw3 hr3);rw[LP]at hw3;have H:QY (fun id l=>(cx dB l.length l).bind fun ws=>some ({aN 0 with id:=id,wants:=ws},[])) id B p tb l W (.returned (.tuple #[])) w3:=⟨K1.trans (hr3.sub (by simp)),.inr ⟨{aN 0 with id:=id,wants:=xs},⟨⟨av,n,cv⟩,bQ,bQ⟩,[],by rw[rH.out];rfl,rfl,R1.wrote hr3 (by simp;omega),hw3,fun M hM=>?_⟩⟩
 ·go_end0
  exact H
 have TF:eN bM.cl 2 w3 ⟨av,n,cv⟩ xs M:=by
  refine tT (f:=bM.cl) (size:=2) (fun x=>rfl) (fW HO.out hr3 (fun y hy hm=>?_)) hn.out (fun c hc=>?_)
  ·have:=(HO.lt y (bA.1 hm)).1;have:=sB.out;simp at hy;omega
  have:=hM c hc;omega
 exact⟨TF,eN.nil w3 M,eN.nil w3 M⟩
theorem yZ(W:World)(B p tb:Nat)(id:Int)(l:List UInt8)(hR:Rd W B p l)(hL:l.length<=65536)(hb:ar W tb (({aN 0 with id:=id}:Pk).cells bo).toArray 52)(hB:B<=tb):
  Calls prog 147 #[.agg #[.pointer (some ⟨p,0,none⟩)],.pointer (some ⟨tb,0,none⟩)] W (QY (fun id l=>(cx cm l.length l).bind fun ws=>some ({aN 0 with id:=id,codes:=ws},[])) id B p tb l W):=by
 have wA:∀(fn:Fn)(first cap:Array Value)(w:World),(Instr.makeFunc fn first cap).run prog w=.ok (.func fn first cap) w:=fun _ _ _ _=>rfl;obtain⟨W0,hW0⟩:=ae (W.alloc (.cells #[.pointer (some ⟨p,0,none⟩)] 161));have b0:Below W.heap.size W W0:=by rw[<-hW0];exact ai.alloc ah _
 have s0:W0.heap.size=W.heap.size+1:=by rw[<-hW0];simp
 have x0:ar W0 W.heap.size #[.pointer (some ⟨p,0,none⟩)] 161:=by rw[<-hW0];exact ar.new _ _ _
 have T0:=af (hb.ag b0);have K0:Hid (ak [p,tb] W W0):=af (ak.aK b0);have kF:=hR.lt;have mF:=hR.base;have sB:=af hb.lt;have hf:gY 149:=enters_of func149 (by kernel_rfl) rfl;have CT:=af (Ef 149 #[.pointer (some ⟨W.heap.size,0,none⟩)] cm (fun l x r h=>DB h) (hR.ag b0) hL [W.heap.size] (by simp;omega) (by simpa using x0) hf (fun W1 l1 h1 h2=>Mm W1 B p W.heap.size l1 h1 (h2 _ (by simp))));clear hb b0 hR;go_enter func147,ntmps147;go_wp2_with (refine wL 161 rfl rfl x0 underlying161 ?_)
 refine CT.mono ?_;rintro e w1 ⟨bL,⟨hno,rfl⟩ | ⟨xs,v,rH,rfl,R1,ho⟩⟩
 ·exact⟨rfl,K0.trans (bL.sub (by simp)),.inl ⟨by rw[hno];rfl,rfl⟩⟩
 obtain⟨av,cv,rfl⟩:=aA ho;have T1:=T0.aw bL (by simp;omega);have K1:=af (K0.trans (bL.sub (by simp)));have rH:=af rH;have HO:=af ho;have R1:=af R1;have s1:=af bL.size;clear bL x0 ho;obtain⟨n,hn⟩:=ae xs.length;rw[hn]at HO ⊢;have hn:=af hn;obtain⟨tc,pT⟩:∃tc,(({aN 0 with id:=id}:Pk).cells bo).toArray=tc:=⟨_,rfl⟩;have Dm:Hid (tc.size=24):=af (by rw[<-pT];rfl);have LP:Hid (tc.setIfInBounds 22 (.slice av n cv)=(({aN 0 with id:=id,codes:=xs}:Pk).cells ⟨bQ,⟨av,n,cv⟩,bQ⟩).toArray):=af (by rw[<-pT];rfl);rw[pT]at T1;clear pT T0;go_wp2_with (refine aq rfl 49 52 _ _ rfl (fun w=>by kernel_rfl) tb 22 tc (.slice av n cv) rfl rfl T1 (by rw[Dm];decide) rfl rfl ?_;intro w3 hw3 hr3);rw[LP]at hw3;have H:QY (fun id l=>(cx cm l.length l).bind fun ws=>some ({aN 0 with id:=id,codes:=ws},[])) id B p tb l W (.returned (.tuple #[])) w3:=⟨K1.trans (hr3.sub (by simp)),.inr ⟨{aN 0 with id:=id,codes:=xs},⟨bQ,⟨av,n,cv⟩,bQ⟩,[],by rw[rH.out];rfl,rfl,R1.wrote hr3 (by simp;omega),hw3,fun M hM=>?_⟩⟩
 ·go_end0
  exact H
 have TF:eN jD 1 w3 ⟨av,n,cv⟩ xs M:=by
  refine tT (f:=jD) (size:=1) (fun x=>rfl) (fW HO.out hr3 (fun y hy hm=>?_)) hn.out (fun c hc=>?_)
  ·have:=(HO.lt y (bA.1 hm)).1;have:=sB.out;simp at hy;omega
  have:=hM c hc;omega
 exact⟨eN.nil w3 M,TF,eN.nil w3 M⟩
theorem zb(W:World)(B p tb:Nat)(id:Int)(l:List UInt8)(hR:Rd W B p l)(hL:l.length<=65536)(hb:ar W tb (({aN 0 with id:=id}:Pk).cells bo).toArray 52)(hB:B<=tb):
  Calls prog 154 #[.agg #[.pointer (some ⟨p,0,none⟩)],.pointer (some ⟨tb,0,none⟩)] W (QY (fun id l=>(cx bC l.length l).bind fun ws=>some ({aN 0 with id:=id,filters:=ws},[])) id B p tb l W):=by
 have wA:∀(fn:Fn)(first cap:Array Value)(w:World),(Instr.makeFunc fn first cap).run prog w=.ok (.func fn first cap) w:=fun _ _ _ _=>rfl;obtain⟨W0,hW0⟩:=ae (W.alloc (.cells #[.pointer (some ⟨p,0,none⟩)] 161));have b0:Below W.heap.size W W0:=by rw[<-hW0];exact ai.alloc ah _
 have s0:W0.heap.size=W.heap.size+1:=by rw[<-hW0];simp
 have x0:ar W0 W.heap.size #[.pointer (some ⟨p,0,none⟩)] 161:=by rw[<-hW0];exact ar.new _ _ _
 have T0:=af (hb.ag b0);have K0:Hid (ak [p,tb] W W0):=af (ak.aK b0);have kF:=hR.lt;have mF:=hR.base;have sB:=af hb.lt;have hf:gY 141:=enters_of func141 (by kernel_rfl) rfl;have CT:=af (Eg 141 #[.agg #[.pointer (some ⟨p,0,none⟩)]] bC (fun l x r h=>xF h) (hR.ag b0) hL [] (by simp) (by simp) hf (fun W1 l1 h1 h2=>(ju h1).mono fun e w' h=>h.elim (fun k=>.inl ⟨k.1,k.2.1,k.2.2⟩) (fun⟨x,k⟩=>.inr ⟨x,k.1,k.2.1,k.2.2.1,k.2.2.2⟩)));clear hb b0 hR;go_enter func154,ntmps154;go_wp2_with (refine wL 161 rfl rfl x0 underlying161 ?_)
 refine CT.mono ?_;rintro e w1 ⟨bL,⟨hno,rfl⟩ | ⟨xs,v,rH,rfl,R1,ho⟩⟩
 ·exact⟨rfl,K0.trans (bL.sub (by simp)),.inl ⟨by rw[hno];rfl,rfl⟩⟩
 obtain⟨av,cv,rfl⟩:=aA ho;have T1:=T0.aw bL (by simp;omega);have K1:=af (K0.trans (bL.sub (by simp)));have rH:=af rH;have HO:=af ho;have R1:=af R1;have s1:=af bL.size;clear bL x0 ho;obtain⟨n,hn⟩:=ae xs.length;rw[hn]at HO ⊢;have hn:=af hn;obtain⟨tc,pT⟩:∃tc,(({aN 0 with id:=id}:Pk).cells bo).toArray=tc:=⟨_,rfl⟩;have Dm:Hid (tc.size=24):=af (by rw[<-pT];rfl);have LP:Hid (tc.setIfInBounds 23 (.slice av n cv)=(({aN 0 with id:=id,filters:=xs}:Pk).cells ⟨bQ,bQ,⟨av,n,cv⟩⟩).toArray):=af (by rw[<-pT];rfl);rw[pT]at T1;clear pT T0;go_wp2_with (refine aq rfl 50 52 _ _ rfl (fun w=>by kernel_rfl) tb 23 tc (.slice av n cv) rfl rfl T1 (by rw[Dm];decide) rfl rfl ?_;intro w3 hw3 hr3);rw[LP]at hw3;have H:QY (fun id l=>(cx bC l.length l).bind fun ws=>some ({aN 0 with id:=id,filters:=ws},[])) id B p tb l W (.returned (.tuple #[])) w3:=⟨K1.trans (hr3.sub (by simp)),.inr ⟨{aN 0 with id:=id,filters:=xs},⟨bQ,bQ,⟨av,n,cv⟩⟩,[],by rw[rH.out];rfl,rfl,R1.wrote hr3 (by simp;omega),hw3,fun M hM=>?_⟩⟩
 ·go_end0
  exact H
 have TF:eN uV 1 w3 ⟨av,n,cv⟩ xs M:=by
  refine tT (f:=uV) (size:=1) (fun x=>rfl) (fW HO.out hr3 (fun y hy hm=>?_)) hn.out (fun c hc=>?_)
  ·have:=(HO.lt y (bA.1 hm)).1;have:=sB.out;simp at hy;omega
  have:=hM c hc;omega
 exact⟨eN.nil w3 M,eN.nil w3 M,TF⟩
theorem gU(W:World)(B p tb:Nat)(id:Int)(l:List UInt8)(hR:Rd W B p l)(hb:ar W tb (({aN 0 with id:=id}:Pk).cells bo).toArray 52):
  Calls prog 214 #[.agg #[.pointer (some ⟨p,0,none⟩)],.pointer (some ⟨tb,0,none⟩)] W (QY (fun id l=>some ({aN 0 with id:=id},l)) id B p tb l W):=by
 have b0:Below W.heap.size W (W.alloc (.cells #[.pointer (some ⟨p,0,none⟩)] 161)):=ai.alloc ah _;go_enter func214,ntmps214;go_wp2_with fail
 go_end0
 exact⟨ak.aK b0,.inr ⟨{aN 0 with id:=id},bo,l,rfl,rfl,hR.ag b0,hb.ag b0,fun M _=>vE.zero _ _ ⟨rfl,rfl,rfl⟩ M⟩⟩
end
end Go.Proofs.YtkghejaimhoboaaGreatDoor
