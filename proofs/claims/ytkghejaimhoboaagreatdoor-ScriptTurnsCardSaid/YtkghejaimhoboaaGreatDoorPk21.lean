/- Parts of the proof of ScriptTurns. -/
import Derived.Test.YtkghejaimhoboaaGreatDoorPk18
set_option linter.unusedSimpArgs false
set_option linter.unusedVariables false
set_option maxRecDepth 100000
set_option maxHeartbeats 8000000
namespace Go.Proofs.YtkghejaimhoboaaGreatDoor
open Go.RowKit Go.Shelf Go.Proofs.Tryz
section
attribute [local go_sem] Oper.semAt_some
structure PEq (p q:Pk):Prop where
 wants:p.wants=q.wants
 codes:p.codes=q.codes
 filters:p.filters=q.filters
 flat:sK p q=true
theorem PEq.iff(p q:Pk):p=q↔PEq p q:=by rw[Pk.ly];exact⟨fun⟨a,b,c,d⟩=>⟨a,b,c,d⟩,fun⟨a,b,c,d⟩=>⟨a,b,c,d⟩⟩
theorem Ay(p:Pk)(h:H3)(q:Pk)(k:H3)(w:World)(hp:p.In w h)(hq:q.In w k):
  Calls prog 78 #[.agg (p.cells h).toArray,.agg (q.cells k).toArray] w (aD (p=q) w):=by
 have dK:=PEq.iff p q;obtain⟨P,hP⟩:=ae ((p=q):Prop);rw[hP]at dK ⊢;clear hP;replace dK:=af dK;have HP:=af hp;have HQ:=af hq;obtain⟨pv,DL⟩:=ae ((p.cells h).toArray);obtain⟨qv,qZ⟩:=ae ((q.cells k).toArray);obtain⟨W0,hW0⟩:=ae ((w.alloc (.cells pv 52)).alloc (.cells qv 52));have hb0:Below w.heap.size w W0:=by rw[<-hW0];exact(ai.alloc ah _).alloc (by simp) _
 have eB:PB w.heap.size p h q k W0:=by rw[<-hW0,<-DL,<-qZ];refine⟨(ar.new _ _ _).alloc _,?_⟩;have:=ar.new (w.alloc (.cells (p.cells h).toArray 52)) (q.cells k).toArray 52;simpa using this
 have plw:W0.cell? ⟨w.heap.size,21,none⟩=some (.slice h.w.a h.w.n h.w.c):=eB.one.cell 21;have qlw:W0.cell? ⟨w.heap.size+1,21,none⟩=some (.slice k.w.a k.w.n k.w.c):=eB.two.cell 21;have plc:W0.cell? ⟨w.heap.size,22,none⟩=some (.slice h.c.a h.c.n h.c.c):=eB.one.cell 22;have qlc:W0.cell? ⟨w.heap.size+1,22,none⟩=some (.slice k.c.a k.c.n k.c.c):=eB.two.cell 22;have plf:W0.cell? ⟨w.heap.size,23,none⟩=some (.slice h.f.a h.f.n h.f.c):=eB.one.cell 23;have qlf:W0.cell? ⟨w.heap.size+1,23,none⟩=some (.slice k.f.a k.f.n k.f.c):=eB.two.cell 23;replace hb0:=af hb0;replace eB:=af eB;rw[DL,qZ];replace DL:=af DL;replace qZ:=af qZ;have FH:h.w.n<=9223372036854775807:=by have:=hp.lw.le;have:=hp.lw.max;unfold maxLen at this;omega
 have NM:h.c.n<=9223372036854775807:=by have:=hp.lc.le;have:=hp.lc.max;unfold maxLen at this;omega
 have wA:h.f.n<=9223372036854775807:=by have:=hp.lf.le;have:=hp.lf.max;unfold maxLen at this;omega
 clear hp hq;by_cases Wy:k.w.n=h.w.n
 ·by_cases hlc:k.c.n=h.c.n
  ·by_cases U8:k.f.n=h.f.n
   ·go_enter func78,ntmps78;go_wp2_with fail
    go_loopw [5] (fun i wr=>∃j:Nat,i=.int .i64 j/\j<=h.w.n/\Hid (Below w.heap.size w wr)/\Hid (PB w.heap.size p h q k wr)/\Hid (∀m,m<j->p.wants[m]?=q.wants[m]?)) (fun i _=>h.w.n-(intOf i).toNat)
    case atStart=>exact⟨0,rfl,Nat.zero_le _,hb0,eB,af fun m hm=>absurd hm (by omega)⟩
    case round=>
     obtain⟨j,rfl,hj,hbr,zo,hall⟩:=hrel;obtain⟨SG,Wz⟩:∃W,W=wr:=⟨_,rfl⟩;subst Wz;have eB:=zo.out;have plw:SG.cell? ⟨w.heap.size,21,none⟩=some (.slice h.w.a h.w.n h.w.c):=eB.one.cell 21;have qlw:SG.cell? ⟨w.heap.size+1,21,none⟩=some (.slice k.w.a k.w.n k.w.c):=eB.two.cell 21;have plc:SG.cell? ⟨w.heap.size,22,none⟩=some (.slice h.c.a h.c.n h.c.c):=eB.one.cell 22;have qlc:SG.cell? ⟨w.heap.size+1,22,none⟩=some (.slice k.c.a k.c.n k.c.c):=eB.two.cell 22;have plf:SG.cell? ⟨w.heap.size,23,none⟩=some (.slice h.f.a h.f.n h.f.c):=eB.one.cell 23;have qlf:SG.cell? ⟨w.heap.size+1,23,none⟩=some (.slice k.f.a k.f.n k.f.c):=eB.two.cell 23;replace eB:=af eB;rcases Nat.lt_or_ge j h.w.n with hlt | jw
     ·obtain⟨x,hx⟩:∃x,p.wants[j]?=some x:=⟨_,List.getElem?_eq_getElem (by rw[HP.lw.len];omega)⟩;obtain⟨y,hy⟩:∃y,q.wants[j]?=some y:=⟨_,List.getElem?_eq_getElem (by rw[HQ.lw.len,Wy];omega)⟩;obtain⟨g1,o1,ha1,hr1⟩:=HP.lw.range hx;obtain⟨g2,o2,ha2,hr2⟩:=HQ.lw.range hy;have hc1:=hr1 _ hbr.drew;have hc2:=hr2 _ hbr.drew;have mH:=af hbr.drew;have FB:PB w.heap.size p h q k SG.drew:=⟨zo.out.one,zo.out.two⟩;have WA:=af FB;obtain⟨bv,kC⟩:=ae (decide (x=y));have x5:=Qv x y;have hg1:=Ws x y;rw[kC]at x5;obtain⟨xv,kD⟩:=ae (vP x);obtain⟨yv,kE⟩:=ae (vP y);skip;skip;rw[kD,kE]at x5 hg1;replace kD:=af kD;replace kE:=af kE;replace hx:=af hx;replace hy:=af hy;replace kC:=af kC;have hs1:Hid ((p.cells h).toArray[21]?=some (.slice (some ⟨g1,o1,none⟩) h.w.n h.w.c)):=af (by rw[<-ha1];rfl);have hs2:Hid ((q.cells k).toArray[21]?=some (.slice (some ⟨g2,o2,none⟩) k.w.n k.w.c)):=af (by rw[<-ha2];rfl);replace ha1:=af ha1;replace ha2:=af ha2;clear hr1 hr2;go_wp2_with fail;refine aH [(1000,fun w'=>PB w.heap.size p h q k w'),(1000,fun w'=>w'.rangeAt g1 (o1+j*2) x.cl),(1000,fun w'=>w'.rangeAt g2 (o2+j*2) y.cl)] (by kernel_rfl) ⟨FB,hc1,hc2,trivial⟩ fun KQ aL=>?_;refine tQ [0] ?_;refine lR 1 0 rfl rfl rfl rfl (fun w' hf=>by(have k0:=(hf.one.cell 21).trans hs1.out;go_simp<;>with_reducible rfl)) ?_
      simp only[PT];refine tQ [2,3] ?_;refine lR 4 1 rfl rfl rfl rfl (v:=xv) (fun w' hf=>by rw[<-kD.out];exact run_loadAt_mid w' _ _ 169 x.cl _ hf underlying169 rfl (by kernel_rfl)) ?_;try simp only[PT]
      refine tQ [5] ?_;refine lR 6 0 rfl rfl rfl rfl (fun w' hf=>by(have k0:=(hf.two.cell 21).trans hs2.out;go_simp<;>with_reducible rfl)) ?_;simp only[PT];refine tQ [7,8] ?_;refine lR 9 2 rfl rfl rfl rfl (v:=yv) (fun w' hf=>by rw[<-kE.out];exact run_loadAt_mid w' _ _ 169 y.cl _ hf underlying169 rfl (by kernel_rfl)) ?_;try simp only[PT]
      refine tQ [10] ?_;refine dQ (aL.out _ _ ?_);clear aL KQ;rcases bv with _ | _
      ·go_wp2_with fail
       go_ret;refine aD.no (fun e=>?_) mH.out;have e6:=((dK.1 e).wants);have h7:=hx.out;rw[e6,hy.out]at h7;cases h7;have h8:=kC.out;simp at h8
      go_wp2_with fail
      go_roundw
      case rel=>
       refine⟨j+1,by go_num,by omega,mH,WA,af fun m hm=>?_⟩;by_cases SH:m=j
       ·subst SH;rw[hx.out,hy.out,of_decide_eq_true kC.out]
       exact hall.out m (by omega)
      case measure=>simp[intOf];omega
     obtain rfl:j=h.w.n:=by omega
     have SI:Hid (p.wants=q.wants):=af (by
      apply List.ext_getElem?;intro m;rcases Nat.lt_or_ge m h.w.n with h7 | h7
      ·exact hall.out m h7
      rw[List.getElem?_eq_none (by rw[HP.lw.len];exact h7),List.getElem?_eq_none (by rw[HQ.lw.len,Wy];exact h7)])
     clear hall jw hj;go_wp2_with fail;go_loopw [6] (fun i wr=>∃j:Nat,i=.int .i64 j/\j<=h.c.n/\Hid (Below w.heap.size w wr)/\Hid (PB w.heap.size p h q k wr)/\Hid (∀m,m<j->p.codes[m]?=q.codes[m]?)) (fun i _=>h.c.n-(intOf i).toNat)
     case atStart=>exact⟨0,rfl,Nat.zero_le _,hbr,zo,af fun m hm=>absurd hm (by omega)⟩
     case round=>
      obtain⟨j,rfl,hj,hbr,zo,hall⟩:=hrel;obtain⟨wr2,WB⟩:∃W,W=wr:=⟨_,rfl⟩;subst WB;have eB:=zo.out;have plw:wr2.cell? ⟨w.heap.size,21,none⟩=some (.slice h.w.a h.w.n h.w.c):=eB.one.cell 21;have qlw:wr2.cell? ⟨w.heap.size+1,21,none⟩=some (.slice k.w.a k.w.n k.w.c):=eB.two.cell 21;have plc:wr2.cell? ⟨w.heap.size,22,none⟩=some (.slice h.c.a h.c.n h.c.c):=eB.one.cell 22;have qlc:wr2.cell? ⟨w.heap.size+1,22,none⟩=some (.slice k.c.a k.c.n k.c.c):=eB.two.cell 22;have plf:wr2.cell? ⟨w.heap.size,23,none⟩=some (.slice h.f.a h.f.n h.f.c):=eB.one.cell 23;have qlf:wr2.cell? ⟨w.heap.size+1,23,none⟩=some (.slice k.f.a k.f.n k.f.c):=eB.two.cell 23;replace eB:=af eB;rcases Nat.lt_or_ge j h.c.n with hlt | jw
      ·obtain⟨x,hx⟩:∃x,p.codes[j]?=some x:=⟨_,List.getElem?_eq_getElem (by rw[HP.lc.len];omega)⟩;obtain⟨y,hy⟩:∃y,q.codes[j]?=some y:=⟨_,List.getElem?_eq_getElem (by rw[HQ.lc.len,hlc];omega)⟩;obtain⟨g1,o1,ha1,hr1⟩:=HP.lc.range hx;obtain⟨g2,o2,ha2,hr2⟩:=HQ.lc.range hy;have hc1:=hr1 _ hbr.drew;have hc2:=hr2 _ hbr.drew;have mH:=af hbr.drew;have FB:PB w.heap.size p h q k wr2.drew:=⟨zo.out.one,zo.out.two⟩;have WA:=af FB;obtain⟨bv,kC⟩:=ae (decide (x=y));have x5:=KU x y;have hg1:=Sl x y;rw[kC]at x5;obtain⟨xv,kD⟩:=ae (qD x);obtain⟨yv,kE⟩:=ae (qD y);have hc1:wr2.drew.cell? ⟨g1,o1+j,none⟩=some xv:=by rw[<-kD];simpa using hc1 0 (qD x) rfl
       have hc2:wr2.drew.cell? ⟨g2,o2+j,none⟩=some yv:=by rw[<-kE];simpa using hc2 0 (qD y) rfl
       rw[kD,kE]at x5 hg1;replace kD:=af kD;replace kE:=af kE;replace hx:=af hx;replace hy:=af hy;replace kC:=af kC;have hs1:Hid ((p.cells h).toArray[22]?=some (.slice (some ⟨g1,o1,none⟩) h.c.n h.c.c)):=af (by rw[<-ha1];rfl);have hs2:Hid ((q.cells k).toArray[22]?=some (.slice (some ⟨g2,o2,none⟩) k.c.n k.c.c)):=af (by rw[<-ha2];rfl);replace ha1:=af ha1;replace ha2:=af ha2;clear hr1 hr2;go_wp2_with fail;refine aH [(1000,fun w'=>PB w.heap.size p h q k w'),(1000,fun w'=>w'.cell? ⟨g1,o1+j,none⟩=some xv),(1000,fun w'=>w'.cell? ⟨g2,o2+j,none⟩=some yv)] (by kernel_rfl) ⟨FB,hc1,hc2,trivial⟩ fun KQ aL=>?_;refine tQ [0] ?_;refine lR 1 0 rfl rfl rfl rfl (fun w' hf=>by(have k0:=(hf.one.cell 22).trans hs1.out;go_simp<;>with_reducible rfl)) ?_;simp only[PT];refine tQ [2,3] ?_;refine lR 4 1 rfl rfl rfl rfl (fun w' hf=>by(have k0:=hf;go_simp<;>with_reducible rfl)) ?_;simp only[PT];refine tQ [5] ?_;refine lR 6 0 rfl rfl rfl rfl (fun w' hf=>by(have k0:=(hf.two.cell 22).trans hs2.out;go_simp<;>with_reducible rfl)) ?_;simp only[PT];refine tQ [7,8] ?_;refine lR 9 2 rfl rfl rfl rfl (fun w' hf=>by(have k0:=hf;go_simp<;>with_reducible rfl)) ?_;simp only[PT];refine tQ [10] ?_;refine dQ (aL.out _ _ ?_);clear aL KQ;rcases bv with _ | _
       ·go_wp2_with fail
        go_ret;refine aD.no (fun e=>?_) mH.out;have e6:=((dK.1 e).codes);have h7:=hx.out;rw[e6,hy.out]at h7;cases h7;have h8:=kC.out;simp at h8
       go_wp2_with fail
       go_roundw
       case rel=>
        refine⟨j+1,by go_num,by omega,mH,WA,af fun m hm=>?_⟩;by_cases SH:m=j
        ·subst SH;rw[hx.out,hy.out,of_decide_eq_true kC.out]
        exact hall.out m (by omega)
       case measure=>simp[intOf];omega
      obtain rfl:j=h.c.n:=by omega
      have SJ:Hid (p.codes=q.codes):=af (by
       apply List.ext_getElem?;intro m;rcases Nat.lt_or_ge m h.c.n with h7 | h7
       ·exact hall.out m h7
       rw[List.getElem?_eq_none (by rw[HP.lc.len];exact h7),List.getElem?_eq_none (by rw[HQ.lc.len,hlc];exact h7)])
      clear hall jw hj;go_wp2_with fail;go_loopw [7] (fun i wr=>∃j:Nat,i=.int .i64 j/\j<=h.f.n/\Hid (Below w.heap.size w wr)/\Hid (PB w.heap.size p h q k wr)/\Hid (∀m,m<j->p.filters[m]?=q.filters[m]?)) (fun i _=>h.f.n-(intOf i).toNat)
      case atStart=>exact⟨0,rfl,Nat.zero_le _,hbr,zo,af fun m hm=>absurd hm (by omega)⟩
      case round=>
       obtain⟨j,rfl,hj,hbr,zo,hall⟩:=hrel;obtain⟨iX,WC⟩:∃W,W=wr:=⟨_,rfl⟩;subst WC;have eB:=zo.out;have plw:iX.cell? ⟨w.heap.size,21,none⟩=some (.slice h.w.a h.w.n h.w.c):=eB.one.cell 21;have qlw:iX.cell? ⟨w.heap.size+1,21,none⟩=some (.slice k.w.a k.w.n k.w.c):=eB.two.cell 21;have plc:iX.cell? ⟨w.heap.size,22,none⟩=some (.slice h.c.a h.c.n h.c.c):=eB.one.cell 22;have qlc:iX.cell? ⟨w.heap.size+1,22,none⟩=some (.slice k.c.a k.c.n k.c.c):=eB.two.cell 22;have plf:iX.cell? ⟨w.heap.size,23,none⟩=some (.slice h.f.a h.f.n h.f.c):=eB.one.cell 23;have qlf:iX.cell? ⟨w.heap.size+1,23,none⟩=some (.slice k.f.a k.f.n k.f.c):=eB.two.cell 23;replace eB:=af eB;rcases Nat.lt_or_ge j h.f.n with hlt | jw
       ·obtain⟨x,hx⟩:∃x,p.filters[j]?=some x:=⟨_,List.getElem?_eq_getElem (by rw[HP.lf.len];omega)⟩;obtain⟨y,hy⟩:∃y,q.filters[j]?=some y:=⟨_,List.getElem?_eq_getElem (by rw[HQ.lf.len,U8];omega)⟩;obtain⟨g1,o1,ha1,hr1⟩:=HP.lf.range hx;obtain⟨g2,o2,ha2,hr2⟩:=HQ.lf.range hy;have hc1:=hr1 _ hbr.drew;have hc2:=hr2 _ hbr.drew;have mH:=af hbr.drew;have FB:PB w.heap.size p h q k iX.drew:=⟨zo.out.one,zo.out.two⟩;have WA:=af FB;obtain⟨bv,kC⟩:=ae (decide (x=y));have x5:=Qu x y;have hg1:=Wq x y;rw[kC]at x5;obtain⟨xv,kD⟩:=ae (vh x);obtain⟨yv,kE⟩:=ae (vh y);have hc1:iX.drew.cell? ⟨g1,o1+j,none⟩=some xv:=by rw[<-kD];simpa using hc1 0 (vh x) rfl
        have hc2:iX.drew.cell? ⟨g2,o2+j,none⟩=some yv:=by rw[<-kE];simpa using hc2 0 (vh y) rfl
        rw[kD,kE]at x5 hg1;replace kD:=af kD;replace kE:=af kE;replace hx:=af hx;replace hy:=af hy;replace kC:=af kC;have hs1:Hid ((p.cells h).toArray[23]?=some (.slice (some ⟨g1,o1,none⟩) h.f.n h.f.c)):=af (by rw[<-ha1];rfl);have hs2:Hid ((q.cells k).toArray[23]?=some (.slice (some ⟨g2,o2,none⟩) k.f.n k.f.c)):=af (by rw[<-ha2];rfl);replace ha1:=af ha1;replace ha2:=af ha2;clear hr1 hr2;go_wp2_with fail;refine aH [(1000,fun w'=>PB w.heap.size p h q k w'),(1000,fun w'=>w'.cell? ⟨g1,o1+j,none⟩=some xv),(1000,fun w'=>w'.cell? ⟨g2,o2+j,none⟩=some yv)] (by kernel_rfl) ⟨FB,hc1,hc2,trivial⟩ fun KQ aL=>?_;refine tQ [0] ?_;refine lR 1 0 rfl rfl rfl rfl (fun w' hf=>by(have k0:=(hf.one.cell 23).trans hs1.out;go_simp<;>with_reducible rfl)) ?_;simp only[PT];refine tQ [2,3] ?_;refine lR 4 1 rfl rfl rfl rfl (fun w' hf=>by(have k0:=hf;go_simp<;>with_reducible rfl)) ?_;simp only[PT];refine tQ [5] ?_;refine lR 6 0 rfl rfl rfl rfl (fun w' hf=>by(have k0:=(hf.two.cell 23).trans hs2.out;go_simp<;>with_reducible rfl)) ?_;simp only[PT];refine tQ [7,8] ?_;refine lR 9 2 rfl rfl rfl rfl (fun w' hf=>by(have k0:=hf;go_simp<;>with_reducible rfl)) ?_;simp only[PT];refine tQ [10] ?_;refine dQ (aL.out _ _ ?_);clear aL KQ;rcases bv with _ | _
        ·go_wp2_with fail
         go_ret;refine aD.no (fun e=>?_) mH.out;have e6:=((dK.1 e).filters);have h7:=hx.out;rw[e6,hy.out]at h7;cases h7;have h8:=kC.out;simp at h8
        go_wp2_with fail
        go_roundw
        case rel=>
         refine⟨j+1,by go_num,by omega,mH,WA,af fun m hm=>?_⟩;by_cases SH:m=j
         ·subst SH;rw[hx.out,hy.out,of_decide_eq_true kC.out]
         exact hall.out m (by omega)
        case measure=>simp[intOf];omega
       obtain rfl:j=h.f.n:=by omega
       have SK:Hid (p.filters=q.filters):=af (by
        apply List.ext_getElem?;intro m;rcases Nat.lt_or_ge m h.f.n with h7 | h7
        ·exact hall.out m h7
        rw[List.getElem?_eq_none (by rw[HP.lf.len];exact h7),List.getElem?_eq_none (by rw[HQ.lf.len,U8];exact h7)])
       clear hall jw hj;have eB:=eB.out;have p0:iX.cell? ⟨w.heap.size,0,none⟩=some (.int .i64 p.kind):=eB.one.cell 0;have q0:iX.cell? ⟨w.heap.size+1,0,none⟩=some (.int .i64 q.kind):=eB.two.cell 0;have p1:iX.cell? ⟨w.heap.size,1,none⟩=some (.bool p.dup):=eB.one.cell 1;have q1:iX.cell? ⟨w.heap.size+1,1,none⟩=some (.bool q.dup):=eB.two.cell 1;have p2:iX.cell? ⟨w.heap.size,2,none⟩=some (.bool p.retain):=eB.one.cell 2;have q2:iX.cell? ⟨w.heap.size+1,2,none⟩=some (.bool q.retain):=eB.two.cell 2;have p3:iX.cell? ⟨w.heap.size,3,none⟩=some (.int .i64 p.qos):=eB.one.cell 3;have q3:iX.cell? ⟨w.heap.size+1,3,none⟩=some (.int .i64 q.qos):=eB.two.cell 3;have p4:iX.cell? ⟨w.heap.size,4,none⟩=some (.string ⟨p.topic.toArray⟩):=eB.one.cell 4;have q4:iX.cell? ⟨w.heap.size+1,4,none⟩=some (.string ⟨q.topic.toArray⟩):=eB.two.cell 4;have p5:iX.cell? ⟨w.heap.size,5,none⟩=some (.string ⟨p.body.toArray⟩):=eB.one.cell 5;have q5:iX.cell? ⟨w.heap.size+1,5,none⟩=some (.string ⟨q.body.toArray⟩):=eB.two.cell 5;have p6:iX.cell? ⟨w.heap.size,6,none⟩=some (.int .i64 p.id):=eB.one.cell 6;have q6:iX.cell? ⟨w.heap.size+1,6,none⟩=some (.int .i64 q.id):=eB.two.cell 6;have p7:iX.cell? ⟨w.heap.size,7,none⟩=some (.string ⟨p.client.toArray⟩):=eB.one.cell 7;have q7:iX.cell? ⟨w.heap.size+1,7,none⟩=some (.string ⟨q.client.toArray⟩):=eB.two.cell 7;have p8:iX.cell? ⟨w.heap.size,8,none⟩=some (.bool p.clean):=eB.one.cell 8
       have q8:iX.cell? ⟨w.heap.size+1,8,none⟩=some (.bool q.clean):=eB.two.cell 8;have p9:iX.cell? ⟨w.heap.size,9,none⟩=some (.int .i64 p.keep):=eB.one.cell 9;have q9:iX.cell? ⟨w.heap.size+1,9,none⟩=some (.int .i64 q.keep):=eB.two.cell 9;have p10:iX.cell? ⟨w.heap.size,10,none⟩=some (.bool p.hasWill):=eB.one.cell 10;have q10:iX.cell? ⟨w.heap.size+1,10,none⟩=some (.bool q.hasWill):=eB.two.cell 10;have p11:iX.cell? ⟨w.heap.size,11,none⟩=some (.string ⟨p.will.topic.toArray⟩):=eB.one.cell 11;have q11:iX.cell? ⟨w.heap.size+1,11,none⟩=some (.string ⟨q.will.topic.toArray⟩):=eB.two.cell 11;have p12:iX.cell? ⟨w.heap.size,12,none⟩=some (.string ⟨p.will.body.toArray⟩):=eB.one.cell 12;have q12:iX.cell? ⟨w.heap.size+1,12,none⟩=some (.string ⟨q.will.body.toArray⟩):=eB.two.cell 12;have p13:iX.cell? ⟨w.heap.size,13,none⟩=some (.int .i64 p.will.qos):=eB.one.cell 13;have q13:iX.cell? ⟨w.heap.size+1,13,none⟩=some (.int .i64 q.will.qos):=eB.two.cell 13;have QA:iX.cell? ⟨w.heap.size,14,none⟩=some (.bool p.will.retain):=eB.one.cell 14;have q14:iX.cell? ⟨w.heap.size+1,14,none⟩=some (.bool q.will.retain):=eB.two.cell 14;have p15:iX.cell? ⟨w.heap.size,15,none⟩=some (.bool p.hasUser):=eB.one.cell 15;have q15:iX.cell? ⟨w.heap.size+1,15,none⟩=some (.bool q.hasUser):=eB.two.cell 15;have p16:iX.cell? ⟨w.heap.size,16,none⟩=some (.bool p.hasPass):=eB.one.cell 16;have q16:iX.cell? ⟨w.heap.size+1,16,none⟩=some (.bool q.hasPass):=eB.two.cell 16
       have p17:iX.cell? ⟨w.heap.size,17,none⟩=some (.string ⟨p.user.toArray⟩):=eB.one.cell 17;have q17:iX.cell? ⟨w.heap.size+1,17,none⟩=some (.string ⟨q.user.toArray⟩):=eB.two.cell 17;have p18:iX.cell? ⟨w.heap.size,18,none⟩=some (.string ⟨p.pass.toArray⟩):=eB.one.cell 18;have q18:iX.cell? ⟨w.heap.size+1,18,none⟩=some (.string ⟨q.pass.toArray⟩):=eB.two.cell 18;have p19:iX.cell? ⟨w.heap.size,19,none⟩=some (.bool p.present):=eB.one.cell 19;have q19:iX.cell? ⟨w.heap.size+1,19,none⟩=some (.bool q.present):=eB.two.cell 19;have p20:iX.cell? ⟨w.heap.size,20,none⟩=some (.int .i64 p.code):=eB.one.cell 20;have q20:iX.cell? ⟨w.heap.size+1,20,none⟩=some (.int .i64 q.code):=eB.two.cell 20;replace eB:=af eB;have hbr:=af hbr.out;clear eB zo HP HQ hb0 FH NM wA;go_upto_region 18 with fail;go_cut [8]from 89 (fun s8 wx=>s8=.bool (decide (p.kind=q.kind)&&decide (p.dup=q.dup)&&decide (p.retain=q.retain)&&decide (p.qos=q.qos)&&decide (p.topic=q.topic)&&decide (p.body=q.body)&&decide (p.id=q.id))/\iX=wx)
       case first=>
        go_wp2
        all_goals (go_meet;case rel=>refine⟨?_,rfl⟩;clear hbr SI SJ SK dK;(first | (simp[*];done) | (simp[*];rfl)))
       case rest=>
        obtain⟨rfl,rfl⟩:=hcut;obtain⟨cA,hA⟩:=ae (decide (p.kind=q.kind)&&decide (p.dup=q.dup)&&decide (p.retain=q.retain)&&decide (p.qos=q.qos)&&decide (p.topic=q.topic)&&decide (p.body=q.body)&&decide (p.id=q.id));rw[hA];replace hA:=af hA;go_upto_region 19 with fail;go_cut [9]from 136 (fun s9 wx=>s9=.bool (decide (p.client=q.client)&&decide (p.clean=q.clean)&&decide (p.keep=q.keep)&&decide (p.hasWill=q.hasWill)&&decide (p.will.topic=q.will.topic)&&decide (p.will.body=q.will.body)&&decide (p.will.qos=q.will.qos)&&decide (p.will.retain=q.will.retain))/\iX=wx)
        case first=>
         go_wp2
         all_goals (go_meet;case rel=>refine⟨?_,rfl⟩;clear hbr SI SJ SK dK hA;(first | (simp[*];done) | (simp[*];rfl)))
        case rest=>
         obtain⟨rfl,rfl⟩:=hcut;obtain⟨cB,hB⟩:=ae (decide (p.client=q.client)&&decide (p.clean=q.clean)&&decide (p.keep=q.keep)&&decide (p.hasWill=q.hasWill)&&decide (p.will.topic=q.will.topic)&&decide (p.will.body=q.will.body)&&decide (p.will.qos=q.will.qos)&&decide (p.will.retain=q.will.retain));rw[hB];replace hB:=af hB;have mK:Hid (P->cA=true/\cB=true/\p.hasUser=q.hasUser/\p.hasPass=q.hasPass/\p.user=q.user/\p.pass=q.pass/\p.present=q.present/\p.code=q.code):=af fun e=>by
          have h9:=(dK.1 e).flat
          unfold sK at h9;simp only[Bool.and_eq_true,decide_eq_true_eq]at h9;rw[<-hA.out,<-hB.out];simp only[Bool.and_eq_true,decide_eq_true_eq];simp only[h9,and_self,true_and]
         have U8:Hid (cA=true->cB=true->p.hasUser=q.hasUser->p.hasPass=q.hasPass->p.user=q.user->p.pass=q.pass->p.present=q.present->p.code=q.code->P):=af fun e1 e2 e3 e4 e5 e6 e7 e8=>by refine dK.2 ⟨SI.out,SJ.out,SK.out,?_⟩;have h1:=hA.trans e1;have h2:=hB.trans e2;simp only[Bool.and_eq_true,decide_eq_true_eq]at h1 h2;unfold sK;simp only[Bool.and_eq_true,decide_eq_true_eq];simp only[h1,h2,e3,e4,e5,e6,e7,e8,and_self]
         clear hA hB dK;cases cA with
         |false=>go_wp2;go_ret;exact aD.no (fun e=>by have:=(mK e).1;cases this) hbr.out
         | true=>
          cases cB with
          |false=>go_wp2;go_ret;exact aD.no (fun e=>by have:=(mK e).2.1;cases this) hbr.out
          | true=>
           go_wp2
           all_goals (go_ret;first
            | exact aD.no (fun e=>by have h9:=mK e;simp_all) hbr.out
            | (refine⟨_,rfl,?_,hbr.out⟩;exact⟨fun h=>U8.out (by trivial) (by trivial) (by assumption) (by assumption) (by assumption) (by assumption) (by assumption) (by simpa using h),fun h=>by have h9:=mK h;simp[h9]⟩))
   skip;have hno:Hid (¬P):=af fun e=>by have e6:=(dK.1 e).filters;have h7:=HP.lf.len;rw[e6,HQ.lf.len]at h7;exact U8 h7
   have dn:((h.f.n:Int)==(k.f.n:Int))=false:=by simpa using fun e=>U8 (by omega)
   go_enter func78,ntmps78;go_wp2_with fail
   go_ret;exact aD.no hno.out hb0.out
  skip;have hno:Hid (¬P):=af fun e=>by have e6:=(dK.1 e).codes;have h7:=HP.lc.len;rw[e6,HQ.lc.len]at h7;exact hlc h7
  have dn:((h.c.n:Int)==(k.c.n:Int))=false:=by simpa using fun e=>hlc (by omega)
  go_enter func78,ntmps78;go_wp2_with fail
  go_ret;exact aD.no hno.out hb0.out
 skip;have hno:Hid (¬P):=af fun e=>by have e6:=(dK.1 e).wants;have h7:=HP.lw.len;rw[e6,HQ.lw.len]at h7;exact Wy h7
 have dn:((h.w.n:Int)==(k.w.n:Int))=false:=by simpa using fun e=>Wy (by omega)
 go_enter func78,ntmps78;go_wp2_with fail
 go_ret;exact aD.no hno.out hb0.out
theorem qH(x y:dE)(w:World)(hx:x.t.In w x.h x.hp)(hy:y.t.In w y.h y.hp):
  Calls prog 30 #[.agg x.cells.toArray,.agg y.cells.toArray] w (aD (x.t=y.t) w):=by
 have dK:=Tn.ly x.t y.t;obtain⟨P,hP⟩:=ae ((x.t=y.t):Prop);rw[hP]at dK ⊢;clear hP;replace dK:=af dK;obtain⟨⟨tk,tc,tp,tb,ta,tn,ti⟩,th,yD⟩:=x;obtain⟨⟨uk,uc,up,ub,ua,un,ui⟩,uh,yE⟩:=y;dsimp only at*
 have HX:=af hx;have HY:=af hy;obtain⟨xv,kD⟩:=ae ((dE.cells ⟨⟨tk,tc,tp,tb,ta,tn,ti⟩,th,yD⟩).toArray);obtain⟨yv,kE⟩:=ae ((dE.cells ⟨⟨uk,uc,up,ub,ua,un,ui⟩,uh,yE⟩).toArray);obtain⟨W0,hW0⟩:=ae ((w.alloc (.cells xv 55)).alloc (.cells yv 55));have hb0:Below w.heap.size w W0:=by rw[<-hW0];exact(ai.alloc ah _).alloc (by simp) _
 have rh:TB w.heap.size ⟨⟨tk,tc,tp,tb,ta,tn,ti⟩,th,yD⟩ ⟨⟨uk,uc,up,ub,ua,un,ui⟩,uh,yE⟩ W0:=by rw[<-hW0,<-kD,<-kE];refine⟨(ar.new _ _ _).alloc _,?_⟩;have:=ar.new (w.alloc (.cells (dE.cells ⟨⟨tk,tc,tp,tb,ta,tn,ti⟩,th,yD⟩).toArray 55)) (dE.cells ⟨⟨uk,uc,up,ub,ua,un,ui⟩,uh,yE⟩).toArray 55;simpa using this
 have k0:W0.cell? ⟨w.heap.size,0,none⟩=some (.int .i64 tk):=rh.one.cell 0;have j0:W0.cell? ⟨w.heap.size+1,0,none⟩=some (.int .i64 uk):=rh.two.cell 0;have k1:W0.cell? ⟨w.heap.size,1,none⟩=some (.int .i64 tc):=rh.one.cell 1;have j1:W0.cell? ⟨w.heap.size+1,1,none⟩=some (.int .i64 uc):=rh.two.cell 1;have OA:W0.cell? ⟨w.heap.size,26,none⟩=some (.string ⟨tb.toArray⟩):=rh.one.cell 26;have j26:W0.cell? ⟨w.heap.size+1,26,none⟩=some (.string ⟨ub.toArray⟩):=rh.two.cell 26;have Jt:W0.cell? ⟨w.heap.size,27,none⟩=some (.int .i64 ta):=rh.one.cell 27;have j27:W0.cell? ⟨w.heap.size+1,27,none⟩=some (.int .i64 ua):=rh.two.cell 27;have Nn:W0.cell? ⟨w.heap.size,28,none⟩=some (.int .i64 tn):=rh.one.cell 28;have j28:W0.cell? ⟨w.heap.size+1,28,none⟩=some (.int .i64 un):=rh.two.cell 28;have Fx:W0.cell? ⟨w.heap.size,29,none⟩=some (.slice yD.a yD.n yD.c):=rh.one.cell 29;have j29:W0.cell? ⟨w.heap.size+1,29,none⟩=some (.slice yE.a yE.n yE.c):=rh.two.cell 29;have hb0:=af hb0;have rh:=af rh;rw[kD,kE];replace kD:=af kD;replace kE:=af kE;by_cases h0:tk=uk
 ·subst h0;by_cases h1:tc=uc
  ·subst h1;by_cases h2:tb=ub
   ·subst h2;by_cases h3:ta=ua
    ·subst h3;by_cases h4:tn=un
     ·subst h4;go_enter func30,ntmps30;go_wp2_with fail
      refine(wG (HX.p.ag hb0.out) (HY.p.ag hb0.out)).mono ?_;rintro e w1 ⟨b1,rfl,hb1,vn⟩;have rz:=rh.ag vn;have qY:=af (hb0.trans (vn.mono hb0.size));replace hb1:=af hb1;clear k0 k1 j0 j1 OA Jt Nn Fx j26 j27 j28 j29 vn;have Jq:=rz.one.mid [.int .i64 tk,.int .i64 tc] (tp.cells th) [.string ⟨tb.toArray⟩,.int .i64 ta,.int .i64 tn,.slice yD.a yD.n yD.c] rfl;have kg:=rz.two.mid [.int .i64 tk,.int .i64 tc] (up.cells uh) [.string ⟨tb.toArray⟩,.int .i64 ta,.int .i64 tn,.slice yE.a yE.n yE.c] rfl;replace rz:=af rz;cases b1 with
      |false=>
       have hno:Hid (¬P):=af fun e=>by have:=hb1.2 (dK.1 e).2.2.2.2.2.2;cases this
       go_wp2;go_ret;exact aD.no hno.out qY.out
      | true=>
       go_wp2_with (first
        | (refine Ar 52 rfl rfl Jq underlying52 ?_)
        | (refine Ar 52 rfl rfl kg underlying52 ?_))
       refine(Ay tp th up uh w1 (HX.pk.ag qY.out) (HY.pk.ag qY.out)).mono ?_;rintro e w2 ⟨b2,rfl,hb2,fO⟩;have hL2:=af (qY.trans (fO.mono qY.size));replace hb2:=af hb2;clear fO;go_wp2_with fail;go_ret;refine⟨b2,rfl,?_,hL2.out⟩;rw[hb2.out,dK.out];constructor
       ·intro h5;exact⟨by trivial,by trivial,h5,by trivial,by trivial,by trivial,by simpa using hb1.out⟩
       exact fun h5=>h5.2.2.1
     have dn:(tn==un)=false:=by simpa using h4
     have hno:Hid (¬P):=af fun e=>h4 (dK.1 e).2.2.2.2.2.1;replace h4:=af h4;go_enter func30,ntmps30;go_wp2;go_ret;exact aD.no hno.out hb0.out
    have dn:(ta==ua)=false:=by simpa using h3
    have hno:Hid (¬P):=af fun e=>h3 (dK.1 e).2.2.2.2.1;replace h3:=af h3;go_enter func30,ntmps30;go_wp2;go_ret;exact aD.no hno.out hb0.out
   have dn:(tb==ub)=false:=by simpa using h2
   have hno:Hid (¬P):=af fun e=>h2 (dK.1 e).2.2.2.1;replace h2:=af h2;go_enter func30,ntmps30;go_wp2;go_ret;exact aD.no hno.out hb0.out
  have dn:(tc==uc)=false:=by simpa using h1
  have hno:Hid (¬P):=af fun e=>h1 (dK.1 e).2.1;replace h1:=af h1;go_enter func30,ntmps30;go_wp2;go_ret;exact aD.no hno.out hb0.out
 have dn:(tk==uk)=false:=by simpa using h0
 have hno:Hid (¬P):=af fun e=>h0 (dK.1 e).1;replace h0:=af h0;go_enter func30,ntmps30;go_wp2;go_ret;exact aD.no hno.out hb0.out
theorem map_eq_iff{α β:Type}(f:α->β)(xs ys:List α)(h:xs.length=ys.length):xs.map f=ys.map f↔∀(j:Nat) x y,xs[j]?=some x->ys[j]?=some y->f x=f y:=by
 constructor
 ·intro e j x y hx hy;have h1:(xs.map f)[j]?=some (f x):=by rw[List.getElem?_map,hx];rfl
  have h2:(ys.map f)[j]?=some (f y):=by rw[List.getElem?_map,hy];rfl
  rw[e,h2]at h1;exact(Option.some.inj h1).symm
 intro hall;apply List.ext_getElem?;intro j;rw[List.getElem?_map,List.getElem?_map];rcases Nat.lt_or_ge j xs.length with hj | hj
 ·rw[List.getElem?_eq_getElem hj,List.getElem?_eq_getElem (by omega)];exact congrArg some (hall j _ _ (List.getElem?_eq_getElem hj) (List.getElem?_eq_getElem (by omega)))
 rw[List.getElem?_eq_none hj,List.getElem?_eq_none (by omega)]
theorem OO(a0 b0:Int)(a1 b1:Int)(a2 b2:Int)(a3 b3:Int)(a4 b4:Int)(a5 b5:Int)(a6 b6:List UInt8)(W:World):(binOp .neq 27 (.agg #[.int .i64 a0,.int .i64 a1,.int .i64 a2,.int .i64 a3,.int .i64 a4,.int .i64 a5,.string ⟨a6.toArray⟩]) (.agg #[.int .i64 b0,.int .i64 b1,.int .i64 b2,.int .i64 b3,.int .i64 b4,.int .i64 b5,.string ⟨b6.toArray⟩])).run prog W=.ok (.bool (!(decide (a0=b0)&&decide (a1=b1)&&decide (a2=b2)&&decide (a3=b3)&&decide (a4=b4)&&decide (a5=b5)&&decide (a6=b6)))) W:=by
 go_simp;by_cases h0:a0=b0
 ·subst h0;by_cases h1:a1=b1
  ·subst h1;by_cases h2:a2=b2
   ·subst h2;by_cases h3:a3=b3
    ·subst h3;by_cases h4:a4=b4
     ·subst h4;by_cases h5:a5=b5
      ·subst h5;by_cases h6:a6=b6
       ·subst h6;simp
       simp[h6]
      simp[h5]
     simp[h4]
    simp[h3]
   simp[h2]
  simp[h1]
 simp[h0]
def W4(c d:nS):Bool:=decide (c.bB=d.bB)&&decide (c.room=d.room)&&decide (c.inbox=d.inbox)&&decide (c.subs=d.subs)&&decide (c.cP=d.cP)&&decide (c.cQ=d.cQ)&&decide (c.eY=d.eY)
theorem Tb(c d:nS)(W:World):(binOp .neq 27 (.agg c.cl.toArray) (.agg d.cl.toArray)).run prog W=.ok (.bool (!W4 c d)) W:=OO _ _ _ _ _ _ _ _ _ _ _ _ _ _ W
theorem Tc(c d:nS)(s1 s2:Operand)(W:World):(eqGuard .neq 27 s1 s2 (.agg c.cl.toArray) (.agg d.cl.toArray)).run prog W=.ok () W:=by unfold nS.cl;go_simp
theorem FI(c d:nS):W4 c d=true↔c=d:=by obtain⟨a1,a2,a3,a4,a5,a6,a7⟩:=c;obtain⟨b1,b2,b3,b4,b5,b6,b7⟩:=d;unfold W4;simp only[Bool.and_eq_true,decide_eq_true_eq,nS.mk.injEq,and_assoc]
structure SEq (s t:lj):Prop where
 cf:W4 s.cf t.cf=true
 bI:s.bI=t.bI
 ts:s.ts.map dE.t=t.ts.map dE.t
theorem SEq.iff(s t:lj):s.sc=t.sc↔SEq s t:=by
 unfold lj.sc;rw[Sc.mk.injEq];constructor
 ·rintro⟨a,b,c⟩;exact⟨(FI _ _).2 a,b,c⟩
 rintro⟨a,b,c⟩;exact⟨(FI _ _).1 a,b,c⟩
structure SB (b:Nat)(s t:lj)(w:World):Prop where
 one:ar w b s.cells.toArray 30
 two:ar w (b+1) t.cells.toArray 30
theorem SB.ag{b:Nat}{s t:lj}{w w':World}(h:SB b s t w)(hb:Below w.heap.size w w'):SB b s t w':=⟨h.one.ag hb,h.two.ag hb⟩
theorem Lk(s t:lj)(w:World)(hs:s.In w)(ht:t.In w):
  Calls prog 10 #[.agg s.cells.toArray,.agg t.cells.toArray] w (aD (s.sc=t.sc) w):=by
 have dK:=SEq.iff s t;obtain⟨P,hP⟩:=ae ((s.sc=t.sc):Prop);rw[hP]at dK ⊢;clear hP;replace dK:=af dK;have HS:=af hs;have HT:=af ht;obtain⟨sv,eQ⟩:=ae s.cells.toArray;obtain⟨tv,Cf⟩:=ae t.cells.toArray;obtain⟨W0,hW0⟩:=ae ((w.alloc (.cells sv 30)).alloc (.cells tv 30));have hb0:Below w.heap.size w W0:=by rw[<-hW0];exact(ai.alloc ah _).alloc (by simp) _
 have b1:ar W0 w.heap.size s.cells.toArray 30:=by rw[<-hW0,<-eQ,<-Cf];exact(ar.new _ _ _).alloc _
 have b2:ar W0 (w.heap.size+1) t.cells.toArray 30:=by rw[<-hW0,<-eQ,<-Cf];have:=ar.new (w.alloc (.cells s.cells.toArray 30)) t.cells.toArray 30;simpa using this
 have m1:=b1.mid [] s.cf.cl [.int .i64 s.bI,.slice s.ht.a s.ht.n s.ht.c] rfl;have m2:=b2.mid [] t.cf.cl [.int .i64 t.bI,.slice t.ht.a t.ht.n t.ht.c] rfl;have k7:W0.cell? ⟨w.heap.size,7,none⟩=some (.int .i64 s.bI):=b1.cell 7;have j7:W0.cell? ⟨w.heap.size+1,7,none⟩=some (.int .i64 t.bI):=b2.cell 7;have k8:W0.cell? ⟨w.heap.size,8,none⟩=some (.slice s.ht.a s.ht.n s.ht.c):=b1.cell 8;have j8:W0.cell? ⟨w.heap.size+1,8,none⟩=some (.slice t.ht.a t.ht.n t.ht.c):=b2.cell 8;have hq:=Tb s.cf t.cf;have hg:=Tc s.cf t.cf;obtain⟨v1,NT⟩:=ae (Value.agg s.cf.cl.toArray);obtain⟨v2,hv2⟩:=ae (Value.agg t.cf.cl.toArray);obtain⟨c1,hc1⟩:=ae (W4 s.cf t.cf);rw[NT,hv2,hc1]at hq;rw[NT,hv2]at hg;have hb0:=af hb0;replace hc1:=af hc1;have V1:=af NT;have V2:=af hv2;have hSB:SB w.heap.size s t W0:=⟨b1,b2⟩;have hSB:=af hSB;have hm:s.ht.n<=9223372036854775807:=by have:=hs.t.le;have:=hs.t.max;unfold maxLen at this;omega
 clear hs ht b1 b2;rw[eQ,Cf];replace eQ:=af eQ;replace Cf:=af Cf;cases c1 with
 | false=>
  have hno:Hid (¬P):=af fun e=>by have h7:=(dK.1 e).cf;rw[hc1.out]at h7;cases h7
  go_enter func10,ntmps10;go_wp2_with (first
   | (refine sF 27 rfl rfl m1 underlying27 ?_)
   | (refine sF 27 rfl rfl m2 underlying27 ?_))
  go_ret;exact aD.no hno.out hb0.out
 | true=>
  by_cases hp:s.bI=t.bI
  ·by_cases hl:t.ht.n=s.ht.n
   ·go_enter func10,ntmps10;go_wp2_with (first
     | (refine sF 27 rfl rfl m1 underlying27 ?_)
     | (refine sF 27 rfl rfl m2 underlying27 ?_))
    have hp:=af hp;clear m1 m2 k7 j7;go_loopw [5] (fun i wr=>∃j:Nat,i=.int .i64 j/\j<=s.ht.n/\Hid (Below w.heap.size w wr)/\Hid (SB w.heap.size s t wr)/\Hid (∀(m:Nat) x y,m<j->s.ts[m]?=some x->t.ts[m]?=some y->x.t=y.t)) (fun i _=>s.ht.n-(intOf i).toNat)
    case atStart=>exact⟨0,rfl,Nat.zero_le _,hb0,hSB,af fun m x y hm=>absurd hm (by omega)⟩
    case round=>
     obtain⟨j,rfl,hj,hbr,zo,hall⟩:=hrel;have p8:wr.cell? ⟨w.heap.size,8,none⟩=some (.slice s.ht.a s.ht.n s.ht.c):=zo.out.one.cell 8;rcases Nat.lt_or_ge j s.ht.n with hlt | jw
     ·obtain⟨x,hx⟩:∃x,s.ts[j]?=some x:=⟨_,List.getElem?_eq_getElem (by rw[HS.t.len];omega)⟩;obtain⟨y,hy⟩:∃y,t.ts[j]?=some y:=⟨_,List.getElem?_eq_getElem (by rw[HT.t.len,hl];omega)⟩;obtain⟨g1,o1,ha1,hr1⟩:=HS.t.range hx;obtain⟨g2,o2,ha2,hr2⟩:=HT.t.range hy;have Td:=hr1 _ hbr.out.drew;have Te:=hr2 _ hbr.out.drew;have FB:SB w.heap.size s t wr.drew:=⟨zo.out.one,zo.out.two⟩;have jL:=af hbr.out.drew;have CS:=af (qH x y wr.drew ((HS.each x (List.mem_of_getElem? hx)).ag jL.out) ((HT.each y (List.mem_of_getElem? hy)).ag jL.out));replace hx:=af hx;replace hy:=af hy;obtain⟨xc,cR⟩:=ae x.cells;obtain⟨yc,eE⟩:=ae y.cells;rw[cR,eE]at CS;have hs1:Hid (s.cells.toArray[8]?=some (.slice (some ⟨g1,o1,none⟩) s.ht.n s.ht.c)):=af (by rw[<-ha1];rfl);have hs2:Hid (t.cells.toArray[8]?=some (.slice (some ⟨g2,o2,none⟩) t.ht.n t.ht.c)):=af (by rw[<-ha2];rfl);replace cR:=af cR;replace eE:=af eE;replace ha1:=af ha1;replace ha2:=af ha2;clear hr1 hr2;go_wp2_with fail;refine aH [(1000,fun w'=>SB w.heap.size s t w'),(1000,fun w'=>w'.rangeAt g1 (o1+j*30) x.cells),(1000,fun w'=>w'.rangeAt g2 (o2+j*30) y.cells)] (by kernel_rfl) ⟨FB,Td,Te,trivial⟩ fun KQ aL=>?_;refine tQ [0] ?_;refine lR 1 0 rfl rfl rfl rfl (fun w' hf=>by(have k0:=(hf.one.cell 8).trans hs1.out;go_simp<;>with_reducible rfl)) ?_
      simp only[PT];refine tQ [2,3] ?_;refine lR 4 1 rfl rfl rfl rfl (v:=.agg xc.toArray) (fun w' hf=>by rw[<-cR.out];exact run_loadAt_mid w' _ _ 55 x.cells _ hf underlying55 rfl (by kernel_rfl)) ?_;try simp only[PT]
      refine tQ [5] ?_;refine lR 6 0 rfl rfl rfl rfl (fun w' hf=>by(have k0:=(hf.two.cell 8).trans hs2.out;go_simp<;>with_reducible rfl)) ?_;simp only[PT];refine tQ [7,8] ?_;refine lR 9 2 rfl rfl rfl rfl (v:=.agg yc.toArray) (fun w' hf=>by rw[<-eE.out];exact run_loadAt_mid w' _ _ 55 y.cells _ hf underlying55 rfl (by kernel_rfl)) ?_;try simp only[PT]
      refine sQ 10 fun K hK=>?_;simp only[GO];go_simp;refine CS.mono ?_;rintro e w7 ⟨bb,rfl,lN,ou⟩;have hS7:SB w.heap.size s t w7:=FB.ag ou;have HS7:=af hS7;have W6:=af (jL.trans (ou.mono jL.size));have Xa:w7.rangeAt g1 (o1+j*30) x.cells:=gu Td (by have:=(HS.t.eM j x hx.out);obtain⟨g',o',e1,e2,e3⟩:=this;rw[ha1.out]at e1;cases e1;have:=jL.size;omega) ou;have Xb:w7.rangeAt g2 (o2+j*30) y.cells:=gu Te (by have:=(HT.t.eM j y hy.out);obtain⟨g',o',e1,e2,e3⟩:=this;rw[ha2.out]at e1;cases e1;have:=jL.size;omega) ou;replace lN:=af lN;refine hK _ _ ⟨⟨fun _=>hS7,fun _=>Xa,fun _=>Xb,trivial⟩,?_⟩;clear hK K ou Xa Xb Td Te;try simp only[PT]
      refine tQ [11] ?_;refine dQ (aL.out _ _ ?_);clear aL KQ;cases bb with
      |false=>
       go_wp2_with fail
       go_ret;refine aD.no (fun e=>?_) W6.out;have h7:=(dK.1 e).ts;have h8:(s.ts.map dE.t)[j]?=some x.t:=by rw[List.getElem?_map,hx.out];rfl
       have h9:(t.ts.map dE.t)[j]?=some y.t:=by rw[List.getElem?_map,hy.out];rfl
       rw[h7,h9]at h8;have h10:=lN.2 (Option.some.inj h8).symm;cases h10
      | true=>
       have hxy:Hid (x.t=y.t):=af (lN.1 rfl);clear lN;go_wp2_with fail;go_roundw
       case rel=>
        refine⟨j+1,by go_num,by omega,W6,HS7,af fun m x' y' hm h7 h8=>?_⟩;by_cases SH:m=j
        ·subst SH;rw[hx.out]at h7;rw[hy.out]at h8;cases h7;cases h8;exact hxy.out
        exact hall.out m x' y' (by omega) h7 h8
       case measure=>simp[intOf];omega
     obtain rfl:j=s.ht.n:=by omega
     go_wp2_with fail
     go_ret;refine aD.yes (dK.2 ⟨hc1.out,hp.out,?_⟩) hbr.out;rw[map_eq_iff dE.t s.ts t.ts (by rw[HS.t.len,HT.t.len,hl])];intro m x y hx hy;exact hall.out m x y (by have:=(List.getElem?_eq_some_iff.1 hx).1;rw[HS.t.len]at this;exact this) hx hy
   have dn:((s.ht.n:Int)==(t.ht.n:Int))=false:=by simpa using fun e=>hl (by omega)
   have hno:Hid (¬P):=af fun e=>by have h7:=congrArg List.length (dK.1 e).ts;rw[List.length_map,List.length_map,HS.t.len,HT.t.len]at h7;exact hl h7.symm
   replace hl:=af hl;go_enter func10,ntmps10;go_wp2_with (first
    | (refine sF 27 rfl rfl m1 underlying27 ?_)
    | (refine sF 27 rfl rfl m2 underlying27 ?_))
   go_ret;exact aD.no hno.out hb0.out
  have dn:(s.bI==t.bI)=false:=by simpa using hp
  have hno:Hid (¬P):=af fun e=>hp (dK.1 e).bI;replace hp:=af hp;go_enter func10,ntmps10;go_wp2_with (first
   | (refine sF 27 rfl rfl m1 underlying27 ?_)
   | (refine sF 27 rfl rfl m2 underlying27 ?_))
  go_ret;exact aD.no hno.out hb0.out
end
end Go.Proofs.YtkghejaimhoboaaGreatDoor
