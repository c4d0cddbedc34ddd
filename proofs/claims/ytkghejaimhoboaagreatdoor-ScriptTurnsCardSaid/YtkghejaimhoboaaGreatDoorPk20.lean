/- Parts of the proof of ScriptTurns. -/
import Derived.Test.YtkghejaimhoboaaGreatDoorPk18
set_option linter.unusedSimpArgs false
set_option linter.unusedVariables false
set_option maxRecDepth 100000
set_option maxHeartbeats 8000000
namespace Go.Proofs.YtkghejaimhoboaaGreatDoor
open Go.RowKit Go.Shelf Go.Proofs.Tryz
section
attribute [local go_sem] Oper.semAt_some
def gY(f:FuncId):Prop:=∀args W,(callFunc f args).run prog W=.ok (.enter f args) W
structure Sn (c:Nat)(x:dE)(f1:FuncId)(c1:Array Value)(f2:FuncId)(c2:Array Value):Prop where
 e1:gY f1
 e2:gY f2
 may:∀W,x.t.In W x.h x.hp->Boxed W c 66 (bG 45 #[])->Calls prog f1 (#[.agg x.cells.toArray]++c1) W (aD (mf x.t) W)
 has:∀W,Calls prog f2 (#[.agg x.cells.toArray]++c2) W fun e w'=>∃y:dE,e=.returned (.agg y.cells.toArray)/\{y.t with kind:=x.t.kind}=cZ x.t/\(∀W',x.t.In W' x.h x.hp->y.t.In W' y.h y.hp)/\Below W.heap.size W w'
def np(x:dE):Prop:=∀c v,df c x.t.kind=some v->∃f1 c1 f2 c2 f3 c3 f4 c4,v=.agg #[bG f1 c1,bG f2 c2,bG f3 c3,bG f4 c4]/\Sn c x f1 c1 f2 c2
theorem jS{c:Nat}{k:Int}(h:df c k=none):¬(1<=k/\k<=8):=by
 intro ⟨h1,h2⟩;unfold df at h;have:k=1\/k=2\/k=3\/k=4\/k=5\/k=6\/k=7\/k=8:=by omega
 rcases this with rfl | rfl | rfl | rfl | rfl | rfl | rfl | rfl<;>simp at h
def vr(c:nS):Prop:=∀W,TzAt W->Calls prog 74 #[.agg c.cl.toArray] W fun e w'=>∃x z,e=.returned (.tuple #[x,.int .i64 z])/\(z=0↔ot c)/\Below W.heap.size W w'
structure iJ (P:Prop)(why:Int)(w:World)(e:Ending)(w':World):Prop where
 out:∃b:Bool,(b=true↔P)/\e=(if b then .returned (.tuple #[])else .panicked (given why))/\Below w.heap.size w w'
theorem iJ.yes{P:Prop}{why:Int}{w w':World}(h:P)(hb:Below w.heap.size w w'):iJ P why w (.returned (.tuple #[])) w':=⟨true,by simpa using h,rfl,hb⟩
theorem iJ.no{P:Prop}{why:Int}{w w':World}(h:¬P)(hb:Below w.heap.size w w'):iJ P why w (.panicked (given why)) w':=⟨false,by simpa using h,rfl,hb⟩
structure RiI (w:World)(n k:Nat)(s:lj)(W:World):Prop where
 ag:Below w.heap.size w W
 all:∀(j:Nat) x,s.ts[j]?=some x->j<k->eh x.t
 head:ot s.cf/\(2<=s.bI/\s.bI<=4096)/\n<=2000
theorem fS{P:Program}{ops:Array Oper}{KQ:Exit->Act->World->Prop}{facts:List Fact}{taken:List Nat}{a:Act}{w:World}(more:List Fact)(hs:∀f∈facts,f∈more)(h0:oC taken more w)(h:atR P ops KQ more taken a w):atR P ops KQ facts taken a w:=by
 intro hlt hc hf hp;have hm:∀(fuel:Nat)(listed:Array Bool)(a:Act)(w:World),mQ P .any ops KQ more fuel listed a w->mQ P .any ops KQ facts fuel listed a w:=by
  intro fuel;induction fuel with
  | zero=>intro listed a w h;exact h
  |succ n ih=>intro listed a w h;exact⟨h.1,fun i hi=>wpOp_mono (fun a' w' h'=>⟨fun f hf=>h'.1 f (hs f hf),ih _ _ _ h'.2⟩) (h.2 i hi)⟩
 refine hm _ _ _ _ (h hlt hc (fun f hf hl=>?_) hp);rw[ji taken f.1 hlt]at hl;exact h0.mem f hf hl
structure U5 (w:World)(tb:Nat)(xc:Array Value)(x:dE)(kb:Nat)(g1 g2 g3 g4:Value)(is:Bool)(W:World):Prop where
 ag:Below w.heap.size w W
 turn:ar W tb xc 55
 kind:ar W kb #[g1,g2,g3,g4] 71
 none:is=false->¬(1<=x.t.kind/\x.t.kind<=8)
 some:is=true->∃c,df c x.t.kind=some (.agg #[g1,g2,g3,g4])/\Boxed W c 66 (bG 45 #[])
theorem dE.setKind(y:dE)(k:Int):y.cells.toArray.setIfInBounds 0 (.int .i64 k)=({y with t:={y.t with kind:=k}}:dE).cells.toArray:=rfl
def ri:Array Value:=#[.nilFunc,.nilFunc,.nilFunc,.nilFunc]
theorem tM{w:World}{m c:Nat}(h:IM .i64 w m (df c))(k:Int):(Instr.lookup 73 (.map (some m)) (.int .i64 k) true).run prog w=.ok (.tuple #[(df c k).getD (.agg ri),.bool (df c k).isSome]) w:=
 ed 73 44 71 underlying73 underlying44 h (.agg ri) (by kernel_rfl) k true
theorem nY(c:Nat)(k:Int):∃g1 g2 g3 g4,(df c k).getD (.agg ri)=.agg #[g1,g2,g3,g4]/\(∀v∈#[g1,g2,g3,g4].toList,v.oneCell'=true)/\((df c k).isSome=true->df c k=some (.agg #[g1,g2,g3,g4])):=by
 unfold df
 repeat' split
 all_goals exact⟨_,_,_,_,rfl,by simp[bG,Value.oneCell'],by simp;try rfl⟩
theorem Av(s:lj)(why:Int)(w:World)(hs:s.In w)(hT:TzAt w)(hN:vr s.cf)(hk:∀x∈s.ts,np x):
  Calls prog 27 #[.agg s.cells.toArray,.int .i64 why] w (iJ (bZ s.sc) why w):=by
 have CM:=af lX;obtain⟨sv,eQ⟩:=ae s.cells.toArray;obtain⟨W0,hW0⟩:=ae (w.alloc (.cells sv 30));have hb0:Below w.heap.size w W0:=by rw[<-hW0];exact ai.alloc ah _
 have b1:ar W0 w.heap.size s.cells.toArray 30:=by rw[<-hW0,<-eQ];exact ar.new _ _ _
 have m1:=b1.mid [] s.cf.cl [.int .i64 s.bI,.slice s.ht.a s.ht.n s.ht.c] rfl;have C1:=af (hN W0 (hT.ag hb0));have HL:=hs.t.len;have HS:=af hs;have hb0:=af hb0;replace hk:=af hk;have gH:=af b1;clear hs hN b1;have HR:Hid (∀(n:Nat),s.ts.length=n->∀w1,RiI w n n s w1->bZ s.sc):=af fun n hn w1 h=>by
  refine⟨h.head.1,h.head.2.1,?_,?_⟩
  ·have:=h.head.2.2;show(s.ts.map dE.t).length<=2000;rw[List.length_map];omega
  intro t ht;obtain⟨x,hx,rfl⟩:=List.mem_map.1 (show t∈s.ts.map dE.t from ht);obtain⟨j,hj,e⟩:=List.getElem_of_mem hx;exact h.all j x (by rw[<-e];exact List.getElem?_eq_getElem hj) (by omega)
 have Qy:Hid (bZ s.sc->ot s.cf/\2<=s.bI/\s.bI<=4096/\s.ts.length<=2000/\∀x∈s.ts,eh x.t):=af fun h=>⟨h.1,h.2.1.1,h.2.1.2,by have:=h.2.2.1;unfold lj.sc at this;simpa using this,fun x hx=>h.2.2.2 _ (List.mem_map_of_mem hx)⟩;obtain⟨Q,hQ⟩:=ae (bZ s.sc:Prop);rw[hQ]at HR Qy ⊢;clear hQ;rw[eQ];replace eQ:=af eQ;go_enter func27,ntmps27;go_wp2_with (refine sF 27 rfl rfl m1 underlying27 ?_)
 refine C1.mono ?_;rintro e w1 ⟨x,z,rfl,hz,hb1⟩;have wC:=af (hb0.trans (hb1.mono hb0.size));have bx:=gH.ag hb1;have k7:w1.cell? ⟨w.heap.size,1+6,none⟩=some (.int .i64 s.bI):=bx.cell 7;have k8:w1.cell? ⟨w.heap.size,8,none⟩=some (.slice s.ht.a s.ht.n s.ht.c):=bx.cell 8;have abj:=af hb1;clear hb1 m1 bx;have HBX:=af (gH.ag abj.out);have W1:=wC.size;obtain⟨p,hp⟩:=ae s.bI;obtain⟨n,hn⟩:=ae s.ht.n;rw[hp]at k7;rw[hn]at k8;obtain⟨sa,Sq⟩:=ae s.ht.a;obtain⟨sc,hsc⟩:=ae s.ht.c;rw[Sq,hsc]at k8;have HP:=af hp;have HN:=af (show s.ts.length=n by rw[HL,hn]);have Cw:=af (HS.t);rw[hn,Sq,hsc]at Cw;clear Sq hsc;clear hp HL;by_cases h0:z=0
 ·subst h0;by_cases h1:2<=p
  ·by_cases h2:p<=4096
   ·by_cases h3:(n:Int)<=2000
    ·have Sr:n<=2000:=by omega
     have d3:decide ((n:Int)<=2000)=true:=decide_eq_true h3;have hh:=af (show ot s.cf/\(2<=s.bI/\s.bI<=4096)/\n<=2000 from⟨hz.1 rfl,by rw[HP.out];exact⟨h1,h2⟩,Sr⟩);clear hz hn;go_wp2_with (go_at_call 19;refine(CM _ _ _).mono ?_;rintro e w9 ⟨rfl,rfl⟩);go_loopw [40] (fun i wr=>∃k:Nat,i=.int .i64 k/\k<=n/\Hid (RiI w n k s wr)) (fun i _=>n-(intOf i).toNat)
     case atStart=>exact⟨0,rfl,Nat.zero_le _,af ⟨wC.out,fun j x _ h=>absurd h (by omega),hh.out⟩⟩
     case round=>
      obtain⟨k,rfl,gW,hI⟩:=hrel;rcases Nat.lt_or_ge k n with hlt | jw
      ·obtain⟨x,hx⟩:∃x,s.ts[k]?=some x:=⟨_,List.getElem?_eq_getElem (by rw[HN.out];exact hlt)⟩;obtain⟨g1,o1,ha1,hr1⟩:=Cw.range hx;have hc1:=hr1 _ hI.out.ag;subst ha1;have Ss:=af (HS.each x (List.mem_of_getElem? hx));have hdo:=af (hk x (List.mem_of_getElem? hx));have ox:=af (Tn.one x.t x.h x.hp);replace hx:=af hx;obtain⟨xc,cR⟩:=ae x.cells;have sx:xc.toArray.size=30:=by rw[<-cR];rfl
       have ox:Hid (∀v∈xc.toArray.toList,v.oneCell'=true):=af (by rw[<-cR];exact ox.out);rw[cR]at hc1;replace sx:=af sx;clear hr1;have hb0:=hI.out.ag.size;go_upto_region 6 with(first
        | (refine sF 55 rfl rfl hc1 underlying55 ?_ rfl rfl (by rw[<-cR];kernel_rfl))
        | (refine wS 55 30 rfl _ _ _ rfl rfl (ar.new _ _ _) sx.out rfl ox.out ?_;intro w5 eo fh))
       have eF:=af ((hI.out.ag.alloc hb0 _).trans (fh.ag (by simp;omega) (by simp;omega)));have abl:=af eo;clear fh hc1;obtain⟨kd,dP⟩:=ae x.t.kind;have kc:Hid (∀W,ar W wr.heap.size xc.toArray 55->W.cell? ⟨wr.heap.size,0,none⟩=some (.int .i64 kd)):=af fun W hb=>by rw[hb.cell,<-cR,<-dP];rfl
       replace dP:=af dP;replace cR:=af cR;clear eo;try simp only[PT]
       go_cut [8,9]from 44 (fun s8 s9 wx=>∃(kb:Nat)(g1 g2 g3 g4:Value)(is:Bool),s8=.pointer (some ⟨kb,0,none⟩)/\s9=.bool is/\Hid (U5 w wr.heap.size xc.toArray x kb g1 g2 g3 g4 is wx))
       case first=>
        have vt:Below w.heap.size w w5.drew:=eF.drew;have rM:ar w5.drew wr.heap.size xc.toArray 55:=abl.out;refine aH [(1000,fun w'=>ar w' wr.heap.size xc.toArray 55)] (by kernel_rfl) ⟨rM,trivial⟩ fun KQ aL=>?_;try simp only[PT]
        obtain⟨W5,Sv⟩:=ae w5.drew;rw[Sv]at vt rM ⊢;refine tQ [1] ?_;refine aG 2 rfl (by kernel_rfl) (by kernel_rfl) rfl rfl 0 rfl (by kernel_rfl) (.int .i64 kd) (fun w' hf=>by(have k0:=kc _ hf;go_simp<;>with_reducible rfl)) ?_;simp only[PT];refine dM [0,7] (fun j hj=>?_);have hj:j=0\/j=7:=by simpa using hj
        rcases hj with rfl | rfl
        ·refine⟨⟨_,rfl,by kernel_rfl,fun K hK=>?_⟩⟩;go_simp;refine(ng _).mono ?_;rintro e w6 ⟨m,c,rfl,hm,hc,fj⟩;have mI:=rM.ag fj;obtain⟨g1,g2,g3,g4,hg,aV,hsome⟩:=nY c kd;have rN:=vt.trans (fj.mono vt.size);refine hK _ _ ⟨⟨fun _=>mI,trivial⟩,?_⟩;clear hK K;try simp only[PT]
         refine fS [(1000,fun w'=>ar w' wr.heap.size xc.toArray 55),(1000,fun w'=>IM .i64 w' m (df c))] (by simp) ⟨fun _=>mI,fun _=>hm,trivial⟩ ?_;refine gM 3 rfl (by kernel_rfl) (by kernel_rfl) rfl rfl rfl 1 rfl (by kernel_rfl) (.tuple #[.agg #[g1,g2,g3,g4],.bool (df c kd).isSome]) (fun w' hf=>(tM hf kd).trans (by rw[hg])) ?_;try simp only[PT]
         refine tQ [4,5,6] ?_;obtain⟨is,kO⟩:=ae ((df c kd).isSome);rw[kO];refine sQ 7 fun K hK=>?_;simp only[GO];go_simp;refine hK _ _ ⟨⟨fun _=>mI.alloc _,fun _=>hm.alloc _,trivial⟩,?_⟩;clear hK K;try simp only[PT]
         refine sQ 8 fun K hK=>?_;simp only[GO];refine wW 71 4 rfl w6.heap.size ri #[g1,g2,g3,g4] rfl rfl (ar.new _ _ _) rfl rfl aV fun w7 gZ gD=>?_;replace gD:ak [w6.heap.size] (w6.alloc (.cells ri 71)) w7:=gD;have zl:=rN.size;have Sw:(w6.alloc (.cells ri 71)).heap.size=w6.heap.size+1:=by simp
         have ou:=(rN.alloc rN.size (.cells ri 71)).trans (gD.ag (by omega) (by simp;omega));have vu:=(mI.alloc (.cells ri 71)).aw gD (by have:=mI.lt;simp;omega);have tJ:=gD.boxed (by have:=hc.lt;simp;omega) (hc.alloc (.cells ri 71));have DM:=(hm.alloc (.cells ri 71)).wrote gD (by have:=hm.lt;simp;omega);refine hK _ _ ⟨⟨fun _=>vu,fun _=>DM,trivial⟩,?_⟩;clear hK K;try simp only[PT]
         refine tQ [9] ?_;refine dQ (aL.out _ _ ?_);clear aL KQ;have hR:=af (show U5 w wr.heap.size xc.toArray x w6.heap.size g1 g2 g3 g4 is w7 from⟨ou,vu,gZ,fun h=>jS (by rw[dP.out];rw[<-kO]at h;exact Option.isSome_eq_false_iff.1 h |>Option.isNone_iff_eq_none.1),fun h=>⟨c,by rw[dP.out];exact hsome (by rw[kO,h]),tJ⟩⟩);go_wp2;go_meet
         case rel=>exact⟨_,_,_,_,_,_,rfl,rfl,hR⟩
        refine⟨⟨_,rfl,by kernel_rfl,fun K hK=>?_⟩⟩;go_simp;refine hK _ _ ⟨⟨fun _=>rM.alloc _,trivial⟩,?_⟩;clear hK K;try simp only[PT]
        refine sQ 0 fun K hK=>?_;simp only[GO];go_simp;refine(ng _).mono ?_;rintro e w6 ⟨m,c,rfl,hm,hc,fj⟩;have mI:=(rM.alloc (.cells ri 71)).ag fj;have DN:=(ar.new W5 ri 71).ag fj;obtain⟨g1,g2,g3,g4,hg,aV,hsome⟩:=nY c kd;have hs5:=vt.size;have FC:(W5.alloc (.cells ri 71)).heap.size=W5.heap.size+1:=by simp
        have rN:=(vt.alloc hs5 (.cells ri 71)).trans (fj.mono (by simp;omega));have Sx:W5.heap.size+1<=w6.heap.size:=by have:=fj.size;simpa using this
        refine hK _ _ ⟨⟨fun _=>mI,trivial⟩,?_⟩;clear hK K;try simp only[PT]
        refine fS [(1000,fun w'=>ar w' wr.heap.size xc.toArray 55),(1000,fun w'=>IM .i64 w' m (df c))] (by simp) ⟨fun _=>mI,fun _=>hm,trivial⟩ ?_;refine gM 3 rfl (by kernel_rfl) (by kernel_rfl) rfl rfl rfl 1 rfl (by kernel_rfl) (.tuple #[.agg #[g1,g2,g3,g4],.bool (df c kd).isSome]) (fun w' hf=>(tM hf kd).trans (by rw[hg])) ?_;try simp only[PT]
        refine tQ [4,5,6] ?_;obtain⟨is,kO⟩:=ae ((df c kd).isSome);rw[kO];refine sQ 8 fun K hK=>?_;simp only[GO];have hne:m≠W5.heap.size:=fun h=>by obtain⟨es,cl,h1, -⟩:=hm;have h2:w6.heap[W5.heap.size]?=_:=DN;rw[h,h2]at h1;cases h1
        have N6:c≠W5.heap.size:=fun h=>by have h1:w6.heap[c]?=_:=hc;have h2:w6.heap[W5.heap.size]?=_:=DN;rw[h,h2]at h1;cases h1
        refine wW 71 4 rfl W5.heap.size ri #[g1,g2,g3,g4] rfl rfl DN rfl rfl aV fun w7 gZ gD=>?_;have ou:=rN.trans (gD.ag (by have:=rN.size;omega) (by simp;omega));have vu:=mI.aw gD (by have:=rM.lt;simp;omega);have tJ:=gD.boxed (by simpa using N6) hc;have DM:=hm.wrote gD (by simpa using hne);refine hK _ _ ⟨⟨fun _=>vu,fun _=>DM,trivial⟩,?_⟩;clear hK K;try simp only[PT]
        refine tQ [9] ?_;refine dQ (aL.out _ _ ?_);clear aL KQ;have hR:=af (show U5 w wr.heap.size xc.toArray x W5.heap.size g1 g2 g3 g4 is w7 from⟨ou,vu,gZ,fun h=>jS (by rw[dP.out];rw[<-kO]at h;exact Option.isSome_eq_false_iff.1 h |>Option.isNone_iff_eq_none.1),fun h=>⟨c,by rw[dP.out];exact hsome (by rw[kO,h]),tJ⟩⟩);go_wp2;go_meet
        case rel=>exact⟨_,_,_,_,_,_,rfl,rfl,hR⟩
       case rest=>
        obtain⟨kb,g1,g2,g3,g4,is,rfl,rfl,hK⟩:=hcut;have hnr:Hid (¬mf x.t->¬Q):=af fun h hq=>h ((Qy hq).2.2.2.2 x (List.mem_of_getElem? hx.out)).1;have Km:Hid (¬(1<=x.t.kind/\x.t.kind<=8)->¬Q):=af fun h hq=>h (iT ((Qy hq).2.2.2.2 x (List.mem_of_getElem? hx.out)));have har:Hid (cZ x.t≠x.t->¬Q):=af fun h hq=>h ((Qy hq).2.2.2.2 x (List.mem_of_getElem? hx.out)).2;cases is with
        |false=>have hno:Hid (¬Q):=af (Km (hK.out.none rfl));clear eF;go_wp2_with (go_at_call 19;refine(CM _ _ _).mono ?_;rintro e w9 ⟨rfl,rfl⟩);exact⟨rfl,iJ.no hno.out hK.out.ag⟩
        | true=>
         obtain⟨c,La,kI⟩:=hK.out.some rfl;obtain⟨f1,c1,f2,c2,f3,c3,f4,c4,hv,Hx⟩:=hdo c _ La;simp only[Value.agg.injEq,Array.mk.injEq,List.cons.injEq,and_true]at hv;obtain⟨rfl,rfl,rfl,rfl⟩:=hv;have k0:wc.cell? ⟨kb,0,none⟩=some (bG f1 c1):=hK.out.kind.cell 0;have e1:=Hx.e1;have e2:=Hx.e2;unfold gY at e1 e2;have tm:=hK.out.turn.mid [] xc [] (by simp);have ix:(prog.info? 55).map (·.size)=some xc.length:=by rw[show xc.length=30 from by simpa using sx.out];exact(by kernel_rfl:(prog.info? 55).map (·.size)=some 30)
         have CY:=af (Hx.may wc (Ss.ag hK.out.ag) kI);rw[cR.out]at CY;unfold bG at k0;clear eF;go_wp2_with (first
          | (refine Ar 55 rfl rfl tm underlying55 ?_ (by kernel_rfl) rfl ix))
         refine CY.mono ?_;rintro e w8 ⟨b,rfl,hb,pU⟩;have Sz:=af (hK.out.ag.trans (pU.mono hK.out.ag.size));have Nq:=hK.out.turn.ag pU;have OI:=hK.out.kind.ag pU;replace hb:=af hb;clear pU tm k0;cases b with
         |false=>
          have hno:Hid (¬Q):=af (hnr (fun h=>by have:=hb.2 h;cases this));go_wp2_with (go_at_call 19;refine(CM _ _ _).mono ?_;rintro e w9 ⟨rfl,rfl⟩)
          exact⟨rfl,iJ.no hno.out Sz.out⟩
         | true=>
          have k1:w8.cell? ⟨kb,1,none⟩=some (bG f2 c2):=OI.cell 1;have CZ:=af (Hx.has w8);rw[cR.out]at CZ;unfold bG at k1;have ix2:(prog.info? 55).map (·.size)=some xc.toArray.size:=by rw[sx.out];exact(by kernel_rfl:(prog.info? 55).map (·.size)=some 30)
          clear hK Hx OI;go_wp2_with (first
           | (go_at_call 19;refine(CM _ _ _).mono ?_;rintro e w9 ⟨rfl,rfl⟩)
           | (refine wL 55 rfl rfl Nq underlying55 ?_ rfl rfl ix2))
          refine CZ.mono ?_;rintro e w9 ⟨y,rfl,hy,JA,tN⟩;have U6:=af (Sz.trans (tN.mono Sz.size));have SA:=Nq.ag tN;have oy:=af (Tn.one y.t y.h y.hp);have Qz:=af (dE.setKind y kd);obtain⟨yc,eE⟩:=ae y.cells.toArray;have sy:Hid (yc.size=30):=af (by rw[<-eE];rfl);have oy:Hid (∀v∈yc.toList,v.oneCell'=true):=af (by rw[<-eE];exact oy.out);rw[eE]at Qz ⊢;replace hy:=af hy;replace JA:=af JA;replace eE:=af eE;have s9:=U6.size;have U7:=af (SA);clear tN Nq k1 SA;go_upto_region 9 with(refine wS 55 30 rfl _ _ _ rfl rfl (ar.new _ _ _) sy.out rfl oy.out ?_;intro FD jq ik);have SC:w9.heap.size+1<=FD.heap.size:=by have:=ik.size;simp at this;omega
          have Hy:=af ((U6.alloc s9 _).trans (ik.ag (by simp;omega) (by simp;omega)));have Lb:=(U7.alloc _).aw ik (by have:=U7.lt;simp;omega);have Lc:=af Lb;have kk:=kc _ Lb;replace ik:=af ik;go_upto_region 10 with(refine aq rfl 44 55 _ _ rfl (fun w=>by kernel_rfl) w9.heap.size 0 yc (.int .i64 kd) rfl rfl jq (by rw[sy];decide) rfl rfl ?_;intro wO fZ DR);rw[Qz.out]at fZ;obtain⟨y',hy'⟩:∃y',({y with t:={y.t with kind:=kd}}:dE)=y':=⟨_,rfl⟩;have et:y'.t=cZ x.t:=by rw[<-hy',<-dP.out];exact hy.out
          have ei:∀W',x.t.In W' x.h x.hp->y'.t.In W' y'.h y'.hp:=fun W' h=>by rw[<-hy'];exact⟨⟨(JA W' h).pk.lw,(JA W' h).pk.lc,(JA W' h).pk.lf⟩,(JA W' h).p⟩
          rw[hy']at fZ;have yH:=af (Hy.trans (DR.ag (by have:=Hy.size;omega) (by simp;omega)));have Aw:=Lc.aw DR (by have:=U7.lt;simp;omega);have CS:=af (OH y' x wO (ei _ (Ss.ag yH.out)) (Ss.ag yH.out));rw[cR.out]at CS;rw[et]at CS;obtain⟨yd,qG⟩:=ae y'.cells.toArray;have iy:(prog.info? 55).map (·.size)=some yd.size:=by rw[<-qG];exact(by kernel_rfl:(prog.info? 55).map (·.size)=some 30)
          rw[qG]at fZ CS;clear DR jq kk Lc Hy ik ei et hy' qG;go_wp2_with (first
           | (refine wL 55 rfl rfl fZ underlying55 ?_ rfl rfl iy)
           | (refine wL 55 rfl rfl Aw underlying55 ?_ rfl rfl ix2))
          refine CS.mono ?_;rintro e FE ⟨b,rfl,hb',nr⟩;have Ld:=af (yH.trans (nr.mono yH.size));replace hb':=af hb';clear nr Aw fZ;cases b with
          |false=>
           have hno:Hid (¬Q):=af (har (fun h=>by have:=hb'.2 h;cases this));go_wp2_with (go_at_call 19;refine(CM _ _ _).mono ?_;rintro e zm ⟨rfl,rfl⟩)
           exact⟨rfl,iJ.no hno.out Ld.out⟩
          | true=>
           have hr:Hid (eh x.t):=af ⟨hb.1 (by trivial),hb'.1 (by trivial)⟩;go_wp2_with (go_at_call 19;refine(CM _ _ _).mono ?_;rintro e zm ⟨rfl,rfl⟩)
           go_roundw
           case rel=>
            refine⟨k+1,by go_num,by omega,af ⟨Ld.out,fun j z hz hj=>?_,hI.out.head⟩⟩;by_cases hjk:j=k
            ·subst hjk;rw[hx.out]at hz;cases hz;exact hr.out
            exact hI.out.all j z hz (by omega)
           case measure=>simp[intOf];omega
      obtain rfl:k=n:=by omega
      go_wp2_with fail
      go_end0
      exact iJ.yes (HR _ HN.out _ hI.out) hI.out.ag
    have hno:Hid (¬Q):=af fun h=>by have:=(Qy h).2.2.2.1;have:=HN.out;omega
    have d3:decide ((n:Int)<=2000)=false:=decide_eq_false h3;have d4:¬n<=2000:=by omega
    clear hz hn;go_wp2_with (go_at_call 19;refine(CM _ _ _).mono ?_;rintro e w9 ⟨rfl,rfl⟩);exact⟨rfl,iJ.no hno.out wC.out⟩
   have hno:Hid (¬Q):=af fun h=>by have:=(Qy h).2.2.1;rw[HP.out]at this;exact h2 this
   clear hz hn;go_wp2_with (go_at_call 19;refine(CM _ _ _).mono ?_;rintro e w9 ⟨rfl,rfl⟩);exact⟨rfl,iJ.no hno.out wC.out⟩
  have hno:Hid (¬Q):=af fun h=>by have:=(Qy h).2.1;rw[HP.out]at this;exact h1 this
  clear hz hn;go_wp2_with (go_at_call 19;refine(CM _ _ _).mono ?_;rintro e w9 ⟨rfl,rfl⟩);exact⟨rfl,iJ.no hno.out wC.out⟩
 have hno:Hid (¬Q):=af fun h=>h0 (hz.2 (Qy h).1);have d0:(z==0)=false:=by simpa using h0
 clear hz hn;go_wp2_with (go_at_call 19;refine(CM _ _ _).mono ?_;rintro e w9 ⟨rfl,rfl⟩);exact⟨rfl,iJ.no hno.out wC.out⟩
def jr(C:bT)(w0:World)(x:dE):Prop:=∀c v,df c x.t.kind=some v->∃f1 c1 f2 c2 f3 c3 f4 c4,v=.agg #[bG f1 c1,bG f2 c2,bG f3 c3,bG f4 c4]/\gY f3/\
 ∀W F p l,Below w0.heap.size w0 W->Wr W F p l->l.length<=65536->(∀b∈F,w0.heap.size<=b)->Calls prog f3 (#[.agg #[.pointer (some ⟨p,0,none⟩)],.agg x.cells.toArray]++c3) W (wK F p l (dC C x.t) W)
theorem aW.ints(w:World)(zs:List Int)(T:TypeId)(h:zs.length<=1000):aW jD 1 (w.alloc (.cells (zs.map fun z=>Value.int .i64 z).toArray T)) (some ⟨w.heap.size,0,none⟩) zs.length zs.length zs:=
 ⟨rfl,Nat.le_refl _,by unfold maxLen;omega,fun i x hx=>⟨w.heap.size,0,rfl,by simp,fun j v hj=>by
  have hb:ar (w.alloc (.cells (zs.map fun z=>Value.int .i64 z).toArray T)) w.heap.size (zs.map fun z=>Value.int .i64 z).toArray T:=ar.new _ _ _;rw[hb.cell];cases j with
  |zero=>
   have:v=.int .i64 x:=by simp[jD]at hj;exact hj.symm
   subst this;simp[hx]
  | succ j=>simp[jD]at hj⟩⟩
def vw(s:Sc):List UInt8:=(je s.cf s.bI).flatMap (fun z=>ay 2 z.toNat)++aI s.cf.eY
def preB(C:bT)(s:Sc)(k:Nat):List UInt8:=vw s++(s.ts.take k).flatMap (iB C)
theorem Az(C:bT)(s:Sc):preB C s s.ts.length=ij C s:=by unfold preB vw ij;rw[List.take_length,List.append_assoc]
theorem Hz(C:bT)(s:Sc)(k:Nat)(t:Tn)(h:s.ts[k]?=some t):preB C s (k+1)=preB C s k++iB C t:=by unfold preB;rw[List.take_add_one,h,List.flatMap_append,List.append_assoc];simp
theorem yI(C:bT)(s:Sc)(k:Nat):(preB C s k).length<=(ij C s).length:=by
 rw[<-Az];unfold preB;rw[List.length_append,List.length_append,List.take_length];have:(s.ts.take k).flatMap (iB C)++(s.ts.drop k).flatMap (iB C)=s.ts.flatMap (iB C):=by rw[<-List.flatMap_append,List.take_append_drop]
 rw[<-this,List.length_append];omega
structure WH (C:bT)(s:Sc)(B:Nat)(w:World)(e:Ending)(w':World):Prop where
 ag:Below B w w'
 out:((ij C s).length<=65536/\∃v,e=.returned v/\w'.ownsRow B 5 1 v (ij C s).length (bs (ij C s)))\/(¬(ij C s).length<=65536/\e=.panicked (given 3))
structure RwI (C:bT)(s:Sc)(w:World)(p q k:Nat)(W:World):Prop where
 out:∃F,Wr W F p (preB C s k)/\(∀b∈F,w.heap.size<=b)/\q∉F
 fit:(preB C s k).length<=65536
 ag:Below w.heap.size w W
 box:ar W q #[.pointer (some ⟨p,0,none⟩)] 102
theorem Le{w:World}{m c:Nat}(h:IM .i64 w m (df c))(k:Int){v:Value}(hv:df c k=some v):(Instr.lookup 73 (.map (some m)) (.int .i64 k) false).run prog w=.ok v w:=by have h1:=ed 73 44 71 underlying73 underlying44 h (.agg ri) (by kernel_rfl) k false;rw[hv]at h1;exact h1
theorem Lf(f1 f2 f3 f4:FuncId)(c1 c2 c3 c4:Array Value)(W:World):(Instr.field 71 (.agg #[bG f1 c1,bG f2 c2,bG f3 c3,bG f4 c4]) 2).run prog W=.ok (bG f3 c3) W:=by kernel_rfl
theorem DT{c:Nat}{k:Int}(h:1<=k/\k<=8):∃v,df c k=some v:=by
 cases e:df c k with
 | none=>exact absurd h (jS e)
 | some v=>exact⟨v,rfl⟩
theorem SL(C:bT)(s:lj)(w:World)(hs:s.In w)(hr:bZ s.sc)(hk:∀x∈s.ts,jr C w x):
  Calls prog 32 #[.agg s.cells.toArray] w (WH C s.sc w.heap.size w):=by
 obtain⟨sv,eQ⟩:=ae s.cells.toArray;obtain⟨W0,hW0⟩:=ae (w.alloc (.cells sv 30));have hb0:Below w.heap.size w W0:=by rw[<-hW0];exact ai.alloc ah _
 have b1:ar W0 w.heap.size s.cells.toArray 30:=by rw[<-hW0,<-eQ];exact ar.new _ _ _
 have hw0:W0.heap.size=w.heap.size+1:=by rw[<-hW0];simp
 have HL:=hs.t.len;have HS:=af hs;have ZH:=af hr;have HB0:=af hb0;replace hk:=af hk;clear hs hr;rw[eQ];replace eQ:=af eQ;go_enter func32,ntmps32;replace hw0:=af hw0;go_upto_region 2 with(go_at_call 79;refine(m0 W0).mono ?_;rintro e w1 ⟨rfl,tO,hb1⟩);have AA:=hb0.trans (hb1.mono hb0.size);have hs1:=AA.size;have hz1:W0.heap.size<w1.heap.size:=tO.lt _ (List.mem_singleton.2 rfl);have hz0:w.heap.size<W0.heap.size:=by have:=hw0.out;omega
 obtain⟨w2,hw2⟩:=ae (w1.alloc (.cells #[.pointer (some ⟨W0.heap.size,0,none⟩)] 102));have hx2:ar w2 w1.heap.size #[.pointer (some ⟨W0.heap.size,0,none⟩)] 102:=by rw[<-hw2];exact ar.new _ _ _
 have hz2:w2.heap.size=w1.heap.size+1:=by rw[<-hw2];simp
 have hb2:Hid (Below w.heap.size w w2):=af (by rw[<-hw2];exact AA.alloc hs1 _);have WJ:Hid (Wr w2 [W0.heap.size] W0.heap.size []):=af (by rw[<-hw2];exact tO.alloc _);have bx2:ar w2 w.heap.size s.cells.toArray 30:=by rw[<-hw2];exact(b1.ag hb1).alloc _
 rw[hw2];have m2:=bx2.mid [] s.cf.cl [.int .i64 s.bI,.slice s.ht.a s.ht.n s.ht.c] rfl;have hF0:Hid (∀b∈[W0.heap.size],w.heap.size<=b):=af (fun b hb=>by simp at hb;omega);obtain⟨p,hp⟩:=ae W0.heap.size;obtain⟨q,hq⟩:=ae w1.heap.size;rw[hp]at WJ hx2 hF0 hz1 hz0 ⊢;rw[hq]at hx2 hz2 hz1 ⊢;replace hx2:=af hx2;replace hz2:=af hz2;clear hb1 tO AA b1 hp hq hs1 hw0 hW0 hw2 hb0;go_upto_region 3 with(first
  | (refine sF 27 rfl rfl m2 underlying27 ?_)
  | (refine wS 27 7 rfl _ _ s.cf.cl.toArray rfl rfl (ar.new _ _ _) rfl rfl (by simp[nS.cl,Value.oneCell']) ?_;intro w3 hw3 hr3))
 have hz3:w2.heap.size+1<=w3.heap.size:=by have:=hr3.size;simp at this;omega
 have s2:=hb2.size;have hb3:=af ((hb2.alloc s2 _).trans (hr3.ag (n₀:=w.heap.size) (by simp;omega) (by simp;omega)));have abx:=af ((WJ.alloc _).wrote hr3 (by have:=hz2.out;simp;omega));have hx3:=(hx2.alloc _).aw hr3 (by have:=hz2.out;simp;omega);have bx3:=(bx2.alloc _).aw hr3 (by have:=hz2.out;simp;omega);have k0:w3.cell? ⟨w2.heap.size,0,none⟩=some (.int .i64 s.cf.bB):=hw3.cell 0;have k1:w3.cell? ⟨w2.heap.size,1,none⟩=some (.int .i64 s.cf.room):=hw3.cell 1;have k2:w3.cell? ⟨w2.heap.size,2,none⟩=some (.int .i64 s.cf.inbox):=hw3.cell 2;have k3:w3.cell? ⟨w2.heap.size,3,none⟩=some (.int .i64 s.cf.subs):=hw3.cell 3;have k4:w3.cell? ⟨w2.heap.size,4,none⟩=some (.int .i64 s.cf.cP):=hw3.cell 4;have k5:w3.cell? ⟨w2.heap.size,5,none⟩=some (.int .i64 s.cf.cQ):=hw3.cell 5;have k7:w3.cell? ⟨w.heap.size,7,none⟩=some (.int .i64 s.bI):=bx3.cell 7;obtain⟨w4,hw4⟩:=ae (w3.alloc (.cells #[.int .i64 s.cf.bB,.int .i64 s.cf.room,.int .i64 s.cf.inbox,.int .i64 s.cf.subs,.int .i64 s.cf.cP,.int .i64 s.cf.cQ,.int .i64 s.bI] 3));have Nh:∀z∈je s.cf s.bI,0<=z/\z<((256^2:Nat):Int):=by obtain⟨⟨a1,a2,a3,a4,a5,a6,a7⟩,a8, -, -⟩:=ZH.out;have e1:s.sc.cf=s.cf:=rfl;have e2:s.sc.bI=s.bI:=rfl;rw[e1]at a1 a2 a3 a4 a5 a6 a7;rw[e2]at a8;intro z hz;simp only[je,List.mem_cons,List.not_mem_nil,or_false]at hz;have:((256^2:Nat):Int)=65536:=rfl;rw[this];rcases hz with rfl | rfl | rfl | rfl | rfl | rfl | rfl<;>omega
 have hb4:Hid (Below w.heap.size w w4):=af (by rw[<-hw4];exact hb3.alloc hb3.size _);have WK:Wr w4 [p] p []:=by rw[<-hw4];exact abx.alloc _
 have hx4:Hid (ar w4 q #[.pointer (some ⟨p,0,none⟩)] 102):=af (by rw[<-hw4];exact hx3.alloc _);have bx4:Hid (ar w4 w.heap.size s.cells.toArray 30):=af (by rw[<-hw4];exact bx3.alloc _);have bc4:Hid (ar w4 w2.heap.size s.cf.cl.toArray 27):=af (by rw[<-hw4];exact hw3.alloc _);have xw:aW jD 1 w4 (some ⟨w3.heap.size,0,none⟩) 7 7 (je s.cf s.bI):=by rw[<-hw4];exact aW.ints w3 (je s.cf s.bI) 3 (by simp[je])
 have CN:=af (fY WK (by simp) 2 (by decide) (by decide) (je s.cf s.bI) Nh (some ⟨w3.heap.size,0,none⟩) 7 7 xw (fun _ x hx hm=>by cases hx;simp at hm;have:=hz2.out;omega) (by decide));replace hz3:=af hz3;clear hr3 xw Nh WK bx3 hw3 m2 bx2 s2;go_wp2_with (refine wL 102 rfl rfl hx3 underlying102 ?_);refine CN.mono ?_;have WO:Hid (((je s.cf s.bI).flatMap fun z=>ay 2 z.toNat).length<=(ij C s.sc).length):=af (by have h1:=yI C s.sc 0;unfold preB vw at h1;rw[List.length_append,List.length_append]at h1;have e1:s.sc.cf=s.cf:=rfl;have e2:s.sc.bI=s.bI:=rfl;rw[e1,e2]at h1;omega)
 rintro e w5 ⟨F5,hs5,⟨SM,rfl,eo⟩ | ⟨SM,rfl⟩⟩
 case inr=>refine⟨rfl,hb4.trans (hs5.wrote.ag (n₀:=w.heap.size) hb4.size (by simp;omega)),.inr ⟨fun h=>?_,rfl⟩⟩;unfold fits at SM;rw[decide_eq_false_iff_not,List.length_nil,Nat.zero_add]at SM;have:=WO.out;omega
 have WQ:((je s.cf s.bI).flatMap fun z=>ay 2 z.toNat).length<=65536:=by unfold fits at SM;rw[decide_eq_true_eq,List.length_nil,Nat.zero_add]at SM;exact SM
 rw[List.nil_append]at eo;have ZI:Hid (∀b∈F5,w.heap.size<b):=af (fun b hb=>by
  have:=hb4.size;have:=bx4.lt;rcases hs5.sub b hb with h | h
  ·simp at h;omega
  omega)
 have U9:=hx4.lt;have ZJ:=hx4.aw hs5.wrote (by have:=hz2.out;simp;omega);have ZK:=bx4.aw hs5.wrote (by simp;omega);have bc5:=bc4.aw hs5.wrote (by have:=hz2.out;simp;omega);have eF:=af (hb4.trans (hs5.wrote.ag (n₀:=w.heap.size) hb4.size (by simp;omega)));have sX:s.cf.eY.length<=200:=ZH.1.2.2.2.2.2.2;have CT:=af (vd eo WQ s.cf.eY (by omega));have k6:w5.cell? ⟨w2.heap.size,6,none⟩=some (.string ⟨s.cf.eY.toArray⟩):=bc5.cell 6;have k8:w5.cell? ⟨w.heap.size,8,none⟩=some (.slice s.ht.a s.ht.n s.ht.c):=ZK.cell 8;have Lg:Hid (q∉F5):=af (hs5.not (by have:=hz2.out;simp;omega) U9);replace sX:=af sX;clear hs5 eo SM WQ U9;go_wp2_with (refine wL 102 rfl rfl ZJ underlying102 ?_);refine CT.mono ?_;have abz:Hid ((vw s.sc).length<=(ij C s.sc).length):=af (by have h1:=yI C s.sc 0;unfold preB at h1;rw[List.length_append]at h1;omega)
 have e1:Hid (((je s.cf s.bI).flatMap fun z=>ay 2 z.toNat)++aI s.cf.eY=vw s.sc):=af rfl;rintro e w6 ⟨F6,zl,⟨⟨_,Va⟩,rfl,kh⟩ | ⟨Va,rfl⟩⟩
 case inr=>refine⟨rfl,eF.trans (zl.wrote.ag (n₀:=w.heap.size) eF.size (fun b hb=>Nat.le_of_lt (ZI b hb))),.inr ⟨fun h=>Va ⟨by have:=sX.out;omega,?_⟩,rfl⟩⟩;unfold fits;rw[decide_eq_true_eq,<-List.length_append,e1];have:=abz.out;omega
 have QB:Hid ((vw s.sc).length<=65536):=af (by unfold fits at Va;rw[decide_eq_true_eq,<-List.length_append,e1]at Va;exact Va)
 rw[e1]at kh;have hF6:Hid (∀b∈F6,w.heap.size<b):=af (fun b hb=>by
  have:=eF.size;have:=ZK.lt;rcases zl.sub b hb with h | h
  ·exact ZI b h
  omega)
 have hx6:=ZJ.aw zl.wrote Lg.out;have hq6:Hid (q∉F6):=af (zl.not Lg.out ZJ.lt);have fj:=af (eF.trans (zl.wrote.ag (n₀:=w.heap.size) eF.size (fun b hb=>Nat.le_of_lt (ZI b hb))));have e0:preB C s.sc 0=vw s.sc:=by unfold preB;simp
 rw[<-e0]at kh QB;have hR0:Hid (RwI C s.sc w p q 0 w6):=af ⟨⟨F6,kh,fun b hb=>Nat.le_of_lt (hF6 b hb),hq6.out⟩,QB.out,fj.out,hx6⟩;have bx6:=ZK.aw zl.wrote (fun h=>by have:=ZI _ h;omega);have k8':w6.cell? ⟨w.heap.size,8,none⟩=some (.slice s.ht.a s.ht.n s.ht.c):=bx6.cell 8;obtain⟨n,hn⟩:=ae s.ht.n;obtain⟨sa,Sq⟩:=ae s.ht.a;obtain⟨sc,hsc⟩:=ae s.ht.c;rw[hn,Sq,hsc]at k8';have HN:=af (show s.ts.length=n by rw[HL,hn]);have Cw:=af (HS.t);rw[hn,Sq,hsc]at Cw;have pR:n<=2000:=by have:=ZH.2.2.1;have e:s.sc.ts.length=s.ts.length:=(by unfold lj.sc;simp);rw[e,HN.out]at this;exact this
 clear Sq hsc hn HL zl kh Va hx6 bx6 ZJ ZK bc5 k8 k6 e0;go_wp2_with fail;go_loopw [39] (fun i wr=>∃k:Nat,i=.int .i64 k/\k<=n/\Hid (RwI C s.sc w p q k wr)) (fun i _=>n-(intOf i).toNat)
 case atStart=>exact⟨0,rfl,Nat.zero_le _,hR0⟩
 case round=>
  obtain⟨k,rfl,gW,hI⟩:=hrel;rcases Nat.lt_or_ge k n with hlt | jw
  ·obtain⟨x,hx⟩:∃x,s.ts[k]?=some x:=⟨_,List.getElem?_eq_getElem (by rw[HN.out];exact hlt)⟩;obtain⟨g1,o1,ha1,hr1⟩:=Cw.range hx;have hc1:=hr1 _ hI.out.ag;subst ha1;have hxm:=List.mem_of_getElem? hx;have hrt:eh x.t:=ZH.2.2.2 _ (show x.t∈s.ts.map dE.t from List.mem_map_of_mem hxm);have hdo:=af (hk x hxm);have hst:s.sc.ts[k]?=some x.t:=by(show(s.ts.map dE.t)[k]?=_);rw[List.getElem?_map,hx];rfl
   have AB:=af (Hz C s.sc k x.t hst);have abB:=af (yI C s.sc (k+1));have ox:=af (Tn.one x.t x.h x.hp);obtain⟨kd,dP⟩:=ae x.t.kind;obtain⟨cn,zr⟩:=ae x.t.conn;have hkb:=iT hrt;have hcb:=nd hrt;rw[dP]at hkb;rw[zr]at hcb;have SP:Hid (iB C x.t=ay 1 kd.toNat++(ay 2 cn.toNat++dC C x.t)):=af (by unfold iB;rw[dP,zr]);obtain⟨xc,cR⟩:=ae x.cells;have sx:xc.toArray.size=30:=by rw[<-cR];rfl
   have ox:Hid (∀v∈xc.toArray.toList,v.oneCell'=true):=af (by rw[<-cR];exact ox.out);rw[cR]at hc1;replace sx:=af sx;have kc:Hid (∀W b,ar W b xc.toArray 55->W.cell? ⟨b,0,none⟩=some (.int .i64 kd)/\W.cell? ⟨b,1,none⟩=some (.int .i64 cn)):=af fun W b hb=>by rw[hb.cell,hb.cell,<-cR,<-dP,<-zr];exact⟨rfl,rfl⟩
   have ix:(prog.info? 55).map (·.size)=some xc.toArray.size:=by rw[sx.out];exact(by kernel_rfl:(prog.info? 55).map (·.size)=some 30)
   replace dP:=af dP;replace cR:=af cR;replace hkb:=af hkb;replace hcb:=af hcb;clear hr1 hrt hst hxm hx zr;have hb0:=hI.out.ag.size;go_upto_region 8 with(first
    | (refine sF 55 rfl rfl hc1 underlying55 ?_ rfl rfl (by rw[<-cR.out];kernel_rfl))
    | (refine wS 55 30 rfl _ _ _ rfl rfl (ar.new _ _ _) sx.out rfl ox.out ?_;intro w7 gZ gD))
   obtain⟨F,hW,hF,QC⟩:=hI.out.out;have hF2:∀b∈F,b<wr.heap.size:=hW.lt;have ou:=af ((hI.out.ag.alloc hb0 _).trans (gD.ag (by simp;omega) (by simp;omega)));have Lh:=(hW.alloc _).wrote gD (fun b hb=>by have:=hF2 b hb;simp;omega);have QD:=(hI.out.box.alloc _).aw gD (by have:=hI.out.box.lt;simp;omega);obtain⟨kk0, -⟩:=kc _ _ gZ;have ZL:=ou.size;have SQ:wr.heap.size<w7.heap.size:=gZ.lt;have hF7:∀b∈F,b<w7.heap.size:=fun b hb=>by have:=hF2 b hb;omega
   have C1:=af (fY (h:=Lh.alloc (.cells #[.int .i64 kd] 3)) hI.out.fit 1 (by decide) (by decide) [kd] (by intro z hz;simp at hz;subst hz;simp;have:=hkb.out;omega) (some ⟨w7.heap.size,0,none⟩) 1 1 (aW.one w7 kd 3) (fun _ x hx hm=>by cases hx;have:=hF7 _ hm;simp at this) (by decide));have Nq:=af (gZ.alloc (.cells #[.int .i64 kd] 3));have ZM:=af (QD.alloc (.cells #[.int .i64 kd] 3));have pU:=af (ou.alloc ZL (.cells #[.int .i64 kd] 3));have QC:=af QC;have hF:=af hF;have hF2:=af hF2;clear hW Lh gD hc1 ou gZ;go_wp2_with (refine wL 102 rfl rfl QD underlying102 ?_);refine C1.mono ?_;clear C1;rintro e w9 ⟨F9,Nr,cC⟩;rw[List.flatMap_cons,List.flatMap_nil,List.append_nil]at cC;have tN:=af (pU.trans (Nr.wrote.ag (n₀:=w.heap.size) pU.size hF.out));have hno:Hid (∀m r,fits (preB C s.sc k) m=false->iB C x.t=m++r->¬(ij C s.sc).length<=65536):=af (fun m r h1 h2 h3=>by have h4:=abB.out;rw[AB.out,h2,List.length_append,List.length_append]at h4;unfold fits at h1;rw[decide_eq_false_iff_not]at h1;omega)
   rcases cC with⟨QE,rfl,cC⟩ | ⟨QE,rfl⟩
   case inr=>exact⟨rfl,tN.out,.inr ⟨hno _ _ QE SP.out,rfl⟩⟩
   have hF9:Hid (∀b∈F9,w.heap.size<=b):=af (fun b hb=>by
    rcases Nr.sub b hb with h | h
    ·exact hF b h
    have:=pU.size;omega)
   have SA:=Nq.aw Nr.wrote (fun h=>by have:=hF2 _ h;omega);have SR:=ZM.aw Nr.wrote QC.out;have hq9:Hid (q∉F9):=af (Nr.not QC.out ZM.lt);have WR:Hid (wr.heap.size∉F9):=af (Nr.not (fun h=>by have:=hF2 _ h;omega) Nq.lt);obtain⟨-,kk1⟩:=kc _ _ SA;have SU:(preB C s.sc k++ay 1 kd.toNat).length<=65536:=by unfold fits at QE;rw[decide_eq_true_eq]at QE;rw[List.length_append];exact QE
   have WS:=cC.lt;have C2:=af (fY (h:=cC.alloc (.cells #[.int .i64 cn] 3)) SU 2 (by decide) (by decide) [cn] (by intro z hz;simp at hz;subst hz;have:=hcb.out;simp;omega) (some ⟨w9.heap.size,0,none⟩) 1 1 (aW.one w9 cn 3) (fun _ x hx hm=>by cases hx;have:=WS _ hm;simp at this) (by decide));have Lb:=af (SA.alloc (.cells #[.int .i64 cn] 3));have Li:=af (SR.alloc (.cells #[.int .i64 cn] 3));have SV:=af (tN.alloc tN.size (.cells #[.int .i64 cn] 3));replace QE:=af QE;replace SU:=af SU;replace SA:=af SA;clear cC Nr WS kk0 QD;go_wp2_with (refine wL 102 rfl rfl SR underlying102 ?_);refine C2.mono ?_;clear C2;rintro e wO ⟨WU,rO,fZ⟩;rw[List.flatMap_cons,List.flatMap_nil,List.append_nil]at fZ;have WV:=af (SV.trans (rO.wrote.ag (n₀:=w.heap.size) SV.size hF9.out));have hfa:Hid (fits (preB C s.sc k) (ay 1 kd.toNat++ay 2 cn.toNat)=fits (preB C s.sc k++ay 1 kd.toNat) (ay 2 cn.toNat)):=af (by rw[iW,QE.out,Bool.true_and]);rcases fZ with⟨yJ,rfl,fZ⟩ | ⟨yJ,rfl⟩
   case inr=>exact⟨rfl,WV.out,.inr ⟨hno (ay 1 kd.toNat++ay 2 cn.toNat) (dC C x.t) (by rw[hfa];exact yJ) (by rw[SP,List.append_assoc]),rfl⟩⟩
   rw[List.append_assoc]at fZ;have SX:Hid (∀b∈WU,w.heap.size<=b):=af (fun b hb=>by
    rcases rO.sub b hb with h | h
    ·exact hF9 b h
    have:=SV.size;omega)
   have Aw:=Lb.aw rO.wrote WR.out;have WW:=Li.aw rO.wrote hq9.out;have WX:Hid (q∉WU):=af (rO.not hq9.out Li.lt);have WY:Hid (wr.heap.size∉WU):=af (rO.not WR.out Lb.lt);have SY:Hid ((preB C s.sc k++(ay 1 kd.toNat++ay 2 cn.toNat)).length<=65536):=af (by rw[<-hfa]at yJ;unfold fits at yJ;rw[decide_eq_true_eq]at yJ;rw[List.length_append];exact yJ)
   replace yJ:=af yJ;replace fZ:=af fZ;clear rO kk1 SR;go_wp2_with fail;refine lS [(1000,fun w'=>ar w' wr.heap.size xc.toArray 55),(1000,fun w'=>ar w' q #[.pointer (some ⟨p,0,none⟩)] 102)] ?_ (by kernel_rfl) ⟨Aw,WW,trivial⟩ fun KQ aL=>?_
   ·intro c a d v w h;cases d<;>exact h
   try simp only[PT]
   have tD:ar wO.drew wr.heap.size xc.toArray 55:=Aw;have xD:ar wO.drew q #[.pointer (some ⟨p,0,none⟩)] 102:=WW;have bD:=WV.drew;have wD:Hid (Wr wO.drew WU p _):=af (fZ.ag ((Below.refl _ wO).drew));have zD:wO.drew.heap.size=wO.heap.size:=rfl;obtain⟨WD,di⟩:=ae wO.drew;rw[di]at tD xD bD wD ⊢;refine tQ [1] ?_;refine aG 2 rfl (by kernel_rfl) (by kernel_rfl) rfl rfl 0 rfl (by kernel_rfl) (.int .i64 kd) (fun w' hf=>by(have k0:=(kc _ _ hf).1;go_simp<;>with_reducible rfl)) ?_;simp only[PT];refine aG 5 rfl (by kernel_rfl) (by kernel_rfl) rfl rfl 1 rfl (by kernel_rfl) (.agg #[.pointer (some ⟨p,0,none⟩)]) (fun w' hf=>by(exact aM hf 102 underlying102 rfl (by kernel_rfl))) ?_;simp only[PT];refine aG 6 rfl (by kernel_rfl) (by kernel_rfl) rfl rfl 0 rfl (by kernel_rfl) (.agg xc.toArray) (fun w' hf=>by(exact aM hf 55 underlying55 rfl ix)) ?_;simp only[PT];refine sQ 0 fun K hK=>?_;simp only[GO];go_simp;refine(ng _).mono ?_;rintro e FE ⟨m,c,rfl,hm,hc,nr⟩;have SZ:=tD.ag nr;have OJ:=xD.ag nr;refine hK _ _ ⟨⟨fun _=>SZ,fun _=>OJ,trivial⟩,?_⟩;clear hK K;try simp only[PT]
   refine fS [(1000,fun w'=>ar w' wr.heap.size xc.toArray 55),(1000,fun w'=>ar w' q #[.pointer (some ⟨p,0,none⟩)] 102),(7,fun w'=>IM .i64 w' m (df c))] (by simp) ⟨fun _=>SZ,fun _=>OJ,fun _=>hm,trivial⟩ ?_;obtain⟨v,hv⟩:=DT (c:=c) hkb.out;obtain⟨f1,c1,f2,c2,f3,c3,f4,c4,oX,hf3,hwr⟩:=hdo c v (by rw[dP.out];exact hv);refine VR 3 rfl (by kernel_rfl) (by kernel_rfl) rfl rfl rfl 2 rfl (by kernel_rfl) v (fun w' hf=>Le hf kd hv) ?_;subst oX;try simp only[PT]
   refine fM 4 rfl (by kernel_rfl) (bG f3 c3) (by kernel_rfl) (fun w' _=>by(have mK:=Lf f1 f2 f3 f4 c1 c2 c3 c4;go_simp)) ?_;try simp only[PT]
   have OM:=af (bD.trans (nr.mono bD.size));have CW:=hwr FE WU p _ OM.out (wD.ag nr) SY.out SX.out;rw[cR.out]at CW;unfold gY at hf3;clear hwr;refine sQ 7 fun K hK=>?_;simp only[GO];simp only[bG];go_simp;refine CW.mono ?_;rintro e zm ⟨F13,Lj,Ia⟩;have wP:=af (OM.trans (Lj.wrote.ag (n₀:=w.heap.size) OM.size SX.out));have QF:Hid (fits (preB C s.sc k) (iB C x.t)=fits (preB C s.sc k++(ay 1 kd.toNat++ay 2 cn.toNat)) (dC C x.t)):=af (by rw[SP,<-List.append_assoc,iW,hfa,yJ.out,Bool.true_and]);rcases Ia with⟨Ib,rfl,Ia⟩ | ⟨Ib,rfl⟩
   case inr=>refine aL.out _ _ _ ?_;exact⟨rfl,wP.out,.inr ⟨hno _ [] (by rw[QF];exact Ib) (by rw[List.append_nil]),rfl⟩⟩
   have WZ:=OJ.aw Lj.wrote WX.out;have abE:∀b∈F13,w.heap.size<=b:=fun b hb=>by
    rcases Lj.sub b hb with h | h
    ·exact SX b h
    have:=OM.size;omega
   have abF:q∉F13:=Lj.not WX.out OJ.lt;rw[List.append_assoc,List.append_assoc,<-SP,<-AB.out]at Ia;have Ta:(preB C s.sc (k+1)).length<=65536:=by rw[<-QF]at Ib;unfold fits at Ib;rw[decide_eq_true_eq]at Ib;rw[AB.out,List.length_append];exact Ib
   have HR:=af (show RwI C s.sc w p q (k+1) zm from⟨⟨F13,Ia,abE,abF⟩,Ta,wP.out,WZ⟩);have abG:=SZ.aw Lj.wrote (WY.out);refine hK _ _ ⟨⟨fun _=>abG,fun _=>WZ,fun h=>by simp at h,trivial⟩,?_⟩;clear hK K;try simp only[PT]
   refine dQ (aL.out _ _ _ ?_);clear aL KQ;go_wp2_with fail;go_roundw
   case rel=>exact⟨k+1,by go_num,by omega,HR⟩
   case measure=>simp[intOf];omega
  obtain rfl:k=n:=by omega
  obtain⟨F,hW,hF,QC⟩:=hI.out.out;have kq:wr.cell? ⟨q,0,none⟩=some (.pointer (some ⟨p,0,none⟩)):=hI.out.box.cell 0;have hall:preB C s.sc k=ij C s.sc:=by rw[<-Az,show s.sc.ts.length=k by(show(s.ts.map dE.t).length=k);rw[List.length_map,HN.out]]
  have iR:=hI.out.fit;rw[hall]at hW iR;have CB:=af (uX hW iR);replace iR:=af iR;replace hF:=af hF;clear hW hall;go_wp2_with fail;refine CB.mono ?_;rintro e w9 ⟨v,rfl,hv,tN⟩;have Nr:=hI.out.ag.size;have H:=af (show WH C s.sc w.heap.size w (.returned v) w9 from⟨hI.out.ag.trans (tN.mono Nr),.inl ⟨iR.out,v,rfl,aT hv Nr⟩⟩);clear hv tN;go_wp2_with fail;go_ret;exact H.out
theorem jr.ag{C:bT}{w0 w1:World}{x:dE}(h:jr C w0 x)(hb:Below w0.heap.size w0 w1):jr C w1 x:=fun c v hv=>by
 obtain⟨f1,c1,f2,c2,f3,c3,f4,c4,e,hf,hw⟩:=h c v hv;refine⟨f1,c1,f2,c2,f3,c3,f4,c4,e,hf,fun W F p l hB hW hl hF=>hw W F p l ?_ hW hl fun b hb'=>?_⟩
 ·exact hb.trans (hB.mono hb.size)
 have:=hF b hb';have:=hb.size;omega
structure Ll (C:bT)(s:Sc)(w:World)(b B:Nat)(o:Option Int)(W:World):Prop where
 err:Boxed W B 31 (.int .i64 0)
 ag:Below w.heap.size w W
 out:(bZ s/\(ij C s).length<=65536/\o=none/\∃v,Boxed W b 22 v/\W.ownsRow w.heap.size 5 1 v (ij C s).length (bs (ij C s)))\/
  (bZ s/\¬(ij C s).length<=65536/\o=some 3/\Boxed W b 22 (.slice none 0 0))\/(¬bZ s/\o=some 2/\Boxed W b 22 (.slice none 0 0))
structure Tf (C:bT)(s:Sc)(w:World)(e:Ending)(w':World):Prop where
 ag:Below w.heap.size w w'
 out:(bZ s/\(ij C s).length<=65536/\∃v,e=.returned (.tuple #[v,.int .i64 0])/\w'.ownsRow w.heap.size 5 1 v (ij C s).length (bs (ij C s)))\/
  (bZ s/\¬(ij C s).length<=65536/\e=.returned (.tuple #[.slice none 0 0,.int .i64 3]))\/(¬bZ s/\e=.returned (.tuple #[.slice none 0 0,.int .i64 2]))
theorem OP(C:bT)(s:lj)(w0 w:World)(g b:Nat)(hg:ar w g s.cells.toArray 30)(hb:Boxed w b 22 (.slice none 0 0))(hw0:Below w0.heap.size w0 w)(hb0:w0.heap.size<=b)(hgb:g≠b)(B:Nat)(hB:Boxed w B 31 (.int .i64 0))(hBb:B≠b)
  (hs:s.In w) (hT:TzAt w) (hN:vr s.cf) (hk:∀x∈s.ts,np x) (hk2:bZ s.sc->∀x∈s.ts,jr C w x):
  Calls prog 31 #[.pointer (some ⟨g,0,none⟩),.pointer (some ⟨b,0,none⟩)] w fun e w'=>∃o,e=ends o (.tuple #[])/\Ll C s.sc w0 b B o w'/\Boxed w' B 31 (.int .i64 0):=by
 have C1:=af (Av s 2 w hs hT hN hk);obtain⟨sv,eQ⟩:=ae s.cells.toArray;have is:(prog.info? 30).map (·.size)=some sv.size:=by rw[<-eQ];exact(by kernel_rfl:(prog.info? 30).map (·.size)=some 9)
 rw[eQ]at hg C1;replace eQ:=af eQ;have hb':=af hb;have HG:=af hg;clear hb;go_enter func31,ntmps31;go_wp2_with (refine wL 30 rfl rfl hg underlying30 ?_ rfl rfl is)
 refine C1.mono ?_;rintro e w1 ⟨r,hr,rfl,hb1⟩;have Lm:=aF hb'.out hb1;have wC:=af (aF hB hb1);have hg1:=HG.ag hb1;have AA:=af (hw0.trans (hb1.mono hw0.size));cases r with
 |false=>have H:=af (show Ll C s.sc w0 b B (some 2) w1 from⟨wC.out,AA.out,.inr (.inr ⟨fun h=>by have:=hr.2 h;simp at this,rfl,Lm⟩)⟩);exact⟨rfl,some 2,rfl,H.out,wC.out⟩
 | true=>
  have Nl:bZ s.sc:=by simpa using hr
  have C2:=af (SL C s w1 (hs.ag hb1) Nl (fun x hx=>(hk2 Nl x hx).ag hb1));rw[eQ.out]at C2;replace Nl:=af Nl;replace Lm:=af Lm;clear hb1 hr hg;go_wp2_with (refine wL 30 rfl rfl hg1 underlying30 ?_ rfl rfl is);refine C2.mono ?_;rintro e w2 ⟨hb2,ho⟩;have sT:=aF Lm.out hb2;have jC:=af (aF wC.out hb2);have Xc:=af (AA.trans (hb2.mono AA.size));rcases ho with⟨hl,v,rfl,hv⟩ | ⟨hl,rfl⟩
  ·obtain⟨av,cv,rfl⟩:=aA hv;have KC:=af (show Boxed (w2.setCell ⟨b,0,none⟩ (.slice av (ij C s.sc).length cv)) B 31 (.int .i64 0)from jC.other hBb _);have H:Hid (Ll C s.sc w0 b B none (w2.setCell ⟨b,0,none⟩ (.slice av (ij C s.sc).length cv))):=af ⟨KC.out,Xc.setCell hb0 _,.inl ⟨Nl.out,hl,rfl,_,sT.set _,aT (ownsRow_setCell_below (a:=⟨b,0,none⟩) hv Lm.lt _) AA.size⟩⟩;have kf:=sT.frozen;have kc:=sT.cell;clear hb2 hv;go_wp2
   go_end0
   exact⟨none,rfl,H.out,KC.out⟩
  have H:=af (show Ll C s.sc w0 b B (some 3) w2 from⟨jC.out,Xc.out,.inr (.inl ⟨Nl.out,hl,rfl,sT⟩)⟩);exact⟨rfl,some 3,rfl,H.out,jC.out⟩
theorem Ln(C:bT)(s:lj)(w:World)(hs:s.In w)(hT:TzAt w)(hN:vr s.cf)(hk:∀x∈s.ts,np x)(hk2:bZ s.sc->∀x∈s.ts,jr C w x):
  Calls prog 11 #[.agg s.cells.toArray] w (Tf C s.sc w):=by
 have wA:∀(fn:Fn)(first cap:Array Value)(w:World),(Instr.makeFunc fn first cap).run prog w=.ok (.func fn first cap) w:=fun _ _ _ _=>rfl;obtain⟨sv,eQ⟩:=ae s.cells.toArray;obtain⟨W0,hW0⟩:=ae (w.alloc (.cells sv 30));have hb0:Below w.heap.size w W0:=by rw[<-hW0];exact ai.alloc ah _
 have hg0:ar W0 w.heap.size s.cells.toArray 30:=by rw[<-hW0,<-eQ];exact ar.new _ _ _
 have hb1:Below w.heap.size w (W0.alloc (.cells #[.slice none 0 0] 22)):=hb0.alloc hb0.size _;have hx1:Boxed (W0.alloc (.cells #[.slice none 0 0] 22)) W0.heap.size 22 (.slice none 0 0):=Boxed.new _ _ _;have hg1:ar (W0.alloc (.cells #[.slice none 0 0] 22)) w.heap.size s.cells.toArray 30:=hg0.alloc _;have hw0:=hg0.lt;have bL:(W0.alloc (.cells #[.slice none 0 0] 22)).heap.size=W0.heap.size+1:=by simp
 obtain⟨W1,hW1⟩:=ae (W0.alloc (.cells #[.slice none 0 0] 22));rw[hW1]at hb1 hx1 hg1 bL;obtain⟨b,lN⟩:=ae W0.heap.size;rw[lN]at hx1 bL hw0;have he:=enters_of func31 (by kernel_rfl) rfl;have C1:=af (Ad 31 #[.pointer (some ⟨w.heap.size,0,none⟩),.pointer (some ⟨b,0,none⟩)] (Ll C s.sc w b W1.heap.size) W1 he
  (OP C s w (W1.alloc (.cells #[.int .i64 0] 31)) w.heap.size b (hg1.alloc _) (hx1.alloc _) (hb1.alloc hb1.size _) (by omega) (by omega) W1.heap.size (Boxed.new _ _ _) (by omega)
   (hs.ag (hb1.alloc hb1.size _)) (hT.ag (hb1.alloc hb1.size _)) hN hk (fun hr x hx=>(hk2 hr x hx).ag (hb1.alloc hb1.size _))))
 rw[eQ];have hb:=af (show w.heap.size<=b by omega);replace bL:=af bL;replace hb1:=af hb1;clear eQ hs hT hN hk hk2 hg0 hg1 hb0 hx1;go_enter func11,ntmps11;go_wp2_with fail
 refine C1.mono ?_;rintro e w2 ⟨o,w1,rfl,hR,hb2,hl⟩;have hsz:(w1.setCell ⟨W1.heap.size,0,none⟩ (.int .i64 (o.getD 0))).heap.size=w1.heap.size:=by simp
 have abK:Below w.heap.size w (w1.setCell ⟨W1.heap.size,0,none⟩ (.int .i64 (o.getD 0))):=hR.ag.setCell (by have:=bL.out;simp;omega) _;have AE:Below w.heap.size w w2:=abK.trans (hb2.mono hR.ag.size);have FJ:∀v,Boxed w1 b 22 v->Boxed w2 b 22 v:=fun v h=>aF (h.other (show b≠W1.heap.size by have:=bL.out;omega) _) (by rw[hsz];exact hb2);obtain⟨av,nv,cv,hv,hA⟩:∃av nv cv,Boxed w2 b 22 (.slice av nv cv)/\∀w3,Below w.heap.size w w3->(∀n xs,w2.ownsRow w.heap.size 5 1 (.slice av nv cv) n xs->w3.ownsRow w.heap.size 5 1 (.slice av nv cv) n xs)->Tf C s.sc w (.returned (.tuple #[.slice av nv cv,.int .i64 (o.getD 0)])) w3:=by
  rcases hR.out with⟨h1,h2,rfl,v,h3,h4⟩ | ⟨h1,h2,rfl,h3⟩ | ⟨h1,rfl,h3⟩
  ·obtain⟨av,cv,rfl⟩:=aA h4;refine⟨_,_,_,FJ _ h3,fun w3 hb hr=>⟨hb,.inl ⟨h1,h2,_,rfl,hr _ _ ?_⟩⟩⟩;refine aB (ownsRow_setCell_other (a:=⟨W1.heap.size,0,none⟩) h4 (fun e=>?_) _) (by rw[hsz];exact hb2);exact hR.err.not_row (by decide) h4 e.symm
  ·exact⟨_,_,_,FJ _ h3,fun w3 hb hr=>⟨hb,.inr (.inl ⟨h1,h2,rfl⟩)⟩⟩
  exact⟨_,_,_,FJ _ h3,fun w3 hb hr=>⟨hb,.inr (.inr ⟨h1,rfl⟩)⟩⟩
 obtain⟨z,hz⟩:=ae (o.getD 0);rw[hz]at hA ⊢;replace hA:=af hA;replace AE:=af AE;have kc:=hv.cell;have kf:=hv.frozen;have HV:=af hv;clear hb2 hR hl hsz FJ hz;go_wp2;refine bodyPost_ret (aS results11 rfl (v:=.slice av nv cv) (x:=.int .i64 z) ?_ rfl) rfl ?_
 ·have k2:=(HV.set (.slice av nv cv)).cell;simp[go_sem,k2,loadVar]
 refine hA _ (AE.setCell hb.out _) fun n xs hr=>ownsRow_setCell_other hr (fun e=>?_) _;exact HV.not_row (by decide) hr e.symm
theorem Tryz.ZN:fL prog 49 3 (.int .i64 0) 1 8:=⟨underlying49,by kernel_rfl,rfl⟩
def rI(k:Nat)(l:List UInt8):Option (Int×List UInt8):=(aX k l).bind fun c=>some ((c.1:Int),c.2)
theorem dy{α:Type}(take:List UInt8->Option (α×List UInt8)):∀(n:Nat)(l:List UInt8),bJ take (n+1) l=(bJ take n l).bind fun r=>(take r.2).bind fun x=>some (r.1++[x.1],x.2)
 | 0,l=>by simp[bJ]
 | n+1,l=>by
  rw[bJ];cases h:take l with
  | none=>simp[bJ,h]
  | some x=>
   rw[Option.bind_some,dy take n x.2]
   conv=>rhs;rw[bJ,h,Option.bind_some]
   cases bJ take n x.2 with
   | none=>rfl
   |some r=>
    simp only[Option.bind_some];cases take r.2 with
    | none=>rfl
    | some y=>rfl
theorem pK{α:Type}(take:List UInt8->Option (α×List UInt8))(l:List UInt8)(j:Nat)(h:bJ take j l=none):∀n,j<=n->bJ take n l=none
 | 0, hn => by obtain rfl:j=0:=by omega
               exact h
 | n+1,hn=>by
  rcases Nat.lt_or_ge n j with hj | hj
  ·obtain rfl:j=n+1:=by omega
   exact h
  rw[dy,pK take l j h n hj];rfl
def yK(xs:List Int):List Value:=xs.map fun z=>.int .i64 z
def Lp(k B p:Nat)(l:List UInt8)(w:World)(e:Ending)(w':World):Prop:=
 (aX k l=none/\e=.panicked (given 390)/\ak [p] w w')\/∃x,aX k l=some x/\e=.returned (.int .i64 x.1)/\Rd w' B p x.2/\ak [p] w w'
structure TkI (k n B p rb:Nat)(l:List UInt8)(w:World)(j:Nat)(v:Value)(W:World):Prop where
 out:∃xs l',bJ (rI k) j l=some (xs,l')/\Rd W B p l'/\W.ownsRow w.heap.size 3 1 v j (yK xs)
 wrote:ak [p] w W
 box:ar W rb #[.pointer (some ⟨p,0,none⟩)] 61
structure TkP (k n B p:Nat)(l:List UInt8)(w:World)(e:Ending)(w':World):Prop where
 wrote:ak [p] w w'
 out:(bJ (rI k) n l=none/\e=.panicked (given 390))\/∃xs l' v,bJ (rI k) n l=some (xs,l')/\e=.returned v/\Rd w' B p l'/\w'.ownsRow w.heap.size 3 1 v n (yK xs)
theorem AG(f:FuncId)(cap:Array Value)(k n B p rb:Nat)(l:List UInt8)(w:World)(hf:gY f)(hR:Rd w B p l)(hb:ar w rb #[.pointer (some ⟨p,0,none⟩)] 61)(kF:rb≠p)(QG:rb<w.heap.size)(hn:n<=65536)
  (hc:∀W l1,Rd W B p l1->ar W rb #[.pointer (some ⟨p,0,none⟩)] 61->Calls prog f cap W (Lp k B p l1 W)):
  Calls prog 21 #[.int .i64 n,.func (.func f) #[] cap] w (TkP k n B p l w):=by
 have H0:=af (show TkI k n B p rb l w 0 (.slice none 0 0) w from⟨⟨[],l,rfl,hR,World.ownsRow_nil _ _ _ _⟩,ak.refl _ _,hb⟩);have mH:=hR.base;have Ic:p<w.heap.size:=by have:=hR.lt;omega
 have hc:=af hc;unfold gY at hf;clear hR hb;go_enter func21,ntmps21;go_wp2_with fail
 go_loopw [5,7] (fun v i wr=>∃(j:Nat)(av:Option Addr)(cv:Nat),i=.int .i64 j/\v=.slice av j cv/\j<=n/\Hid (TkI k n B p rb l w j (.slice av j cv) wr)) (fun _ i _=>n-(intOf i).toNat)
 case atStart=>exact⟨0,none,0,by go_num,rfl,Nat.zero_le _,H0⟩
 case round=>
  obtain⟨j,av,cv,rfl,rfl,hj,hI⟩:=hrel;by_cases hlt:j<n
  ·obtain⟨xs,l',hm,hR,ho⟩:=hI.out.out;have CC:=af (hc wr l' hR hI.out.box);have my:=af (dy (rI k) j l);rw[hm]at my;replace ho:=af ho;clear hR hm;have hsz:=hI.out.wrote.size;go_wp2_with fail
   refine CC.mono ?_;rintro e w1 (⟨hx,rfl,bL⟩ | ⟨x,hx,rfl,jP,bL⟩)
   ·have hno:bJ (rI k) n l=none:=pK _ _ (j+1) (by rw[my.out,Option.bind_some];unfold rI;rw[hx];rfl) n (by omega);exact⟨rfl,hI.out.wrote.trans bL,.inl ⟨hno,rfl⟩⟩
   obtain⟨z,hz⟩:∃z:Int,z=(x.1:Int):=⟨_,rfl⟩;rw[<-hz];have hw:Hid (ak [p] w w1):=af (hI.out.wrote.trans bL);have ke:w1.ownsRow w.heap.size 3 1 (.slice av j cv) j (yK xs):=bL.row (by simp;have:=Ic;omega) ho.out;have pq:=hw.size;have oT:Hid (bJ (rI k) (j+1) l=some (xs++[z],x.2)):=af (by rw[my.out,Option.bind_some];unfold rI;rw[hx,hz];rfl);have hb1:=hI.out.box.aw bL (by simpa using kF);have HO:=af ke;have Qs:=af jP;have gH:=af hb1;clear bL hx jP hb1 hz ho;go_wp2_with (at_builtin;refine dt rfl _ _ rfl Tryz.ZN w.heap.size _ _ _ rfl ke (.int .i64 z) rfl rfl (by omega) (by omega) (by omega) ?_;intro v' w4 dI hg4);go_roundw
   case rel=>
    obtain⟨a4,c4,rfl⟩:=aA dI;have hv:∀y∈blk (.slice av j cv),w.heap.size<=y:=fun y hy=>(HO.lt y (bA.1 hy)).1;have hw4:ak (blk (.slice av j cv)) w1 w4:=ak.ep hg4 (fun q hq=>bA.2 hq);refine⟨j+1,a4,c4,by go_num,rfl,by omega,af ⟨⟨_,_,oT.out,?_,?_⟩,?_,?_⟩⟩
    ·exact Qs.wrote hw4 (fun y hy=>Nat.le_trans mH (hv y hy))
    ·have e:yK (xs++[z])=yK xs++[.int .i64 z]:=by simp[yK]
     rw[e];exact dI
    ·exact hw.fu hw4 hv
    exact gH.aw hw4 (fun h=>by have:=hv _ h;have:=QG;omega)
   case measure=>simp[intOf];omega
  obtain rfl:j=n:=by omega
  obtain⟨xs,l',hm,hR,ho⟩:=hI.out.out;have H:=af (show TkP k j B p l w (.returned (.slice av j cv)) wr from⟨hI.out.wrote,.inr ⟨xs,l',_,hm,rfl,hR,ho⟩⟩);clear hR ho hm;go_wp2;go_ret;exact H.out
theorem ej{α:Type}(take:List UInt8->Option (α×List UInt8))(ht:∀l x r,take l=some (x,r)->r.length<l.length):∀(j n:Nat)(l r:List UInt8)(xs:List α),bJ take j l=some (xs,r)->l.length<=n->
  (r=[]->cx take n l=some xs)/\(r≠[]->take r=none->cx take n l=none)
 | 0,n,l,r,xs,h,hn=>by
  cases h;cases n with
  |zero=>have:l=[]:=List.length_eq_zero_iff.1 (by omega);subst this;exact⟨fun _=>rfl,fun h=>absurd rfl h⟩
  |succ n=>unfold cx;refine⟨fun h=>by rw[if_pos h],fun h hr=>by rw[if_neg h,hr];rfl⟩
 | j+1,n,l,r,xs,h,hn=>by
  unfold bJ at h;cases h1:take l with
  | none=>rw[h1]at h;cases h
  | some x=>
   rw[h1,Option.bind_some]at h;cases h2:bJ take j x.2 with
   | none=>rw[h2]at h;cases h
   | some y=>
    rw[h2,Option.bind_some]at h;cases h;have hlt:=ht l x.1 x.2 h1;have hne:l≠[]:=by rintro rfl;simp at hlt
    cases n with
    | zero=>have:=List.length_pos_iff.2 hne;omega
    |succ n=>obtain⟨a,b⟩:=ej take ht j n x.2 y.2 y.1 h2 (by omega);unfold cx;rw[if_neg hne,h1,Option.bind_some];exact⟨fun hr=>by(rw[a hr];rfl),fun hr hn=>by(rw[b hr hn];rfl)⟩
theorem nt{k:Nat}{l r:List UInt8}{n:Nat}(h:aX k l=some (n,r)):l.length=k+r.length:=by
 unfold aX at h;split at h
 ·cases h
 cases h;rw[List.length_drop];omega
theorem lz{C:bT}{u:Bool}{l r:List UInt8}{t:Tn}(h:cw C u l=some (t,r)):r.length+3<=l.length:=by rw[pC C h,List.length_append];unfold iB;rw[List.length_append,List.length_append,aO,aO];omega
structure eN {α:Type}(f:α->List Value)(size:Nat)(w:World)(h:Hd)(xs:List α)(M:List Nat):Prop where
 eM:aW f size w h.a h.n h.c xs
 off:xs≠[]->∀y,h.a=some y->y.block∉M
theorem eN.step{α:Type}{f:α->List Value}{size:Nat}{w w':World}{h:Hd}{xs:List α}{M M' M2:List Nat}(k:eN f size w h xs M)(hw:ak M' w w')(h1:∀b∈M',b∈M\/w.heap.size<=b)(h2:∀b∈M2,b∈M\/w.heap.size<=b):eN f size w' h xs M2:=by
 have hlt:xs≠[]->∀y,h.a=some y->y.block<w.heap.size:=fun hne y hy=>by obtain⟨x,hx⟩:∃x,xs[0]?=some x:=⟨_,List.getElem?_eq_getElem (List.length_pos_iff.2 hne)⟩;obtain⟨g,off,e,hg, -⟩:=k.eM.eM 0 x hx;rw[hy]at e;cases e;exact hg
 refine⟨⟨k.eM.len,k.eM.le,k.eM.max,fun i x hx=>?_⟩,fun hne y hy hb=>?_⟩
 ·have hne:xs≠[]:=by rintro rfl;simp at hx
  obtain⟨g,off,ha,hg,hr⟩:=k.eM.eM i x hx;refine⟨g,off,ha,Nat.lt_of_lt_of_le hg hw.size,fun j v hj=>?_⟩;rw[<-hr j v hj];unfold World.cell?;rw[hw.block g hg (fun hm=>?_)];rcases h1 g hm with h3 | h3
  ·exact k.off hne _ ha h3
  omega
 rcases h2 _ hb with h3 | h3
 ·exact k.off hne _ hy h3
 have:=hlt hne y hy;omega
theorem eN.nil{α:Type}{f:α->List Value}{size:Nat}(w:World)(M:List Nat):eN f size w bQ ([]:List α) M:=⟨aW.nil w,fun h=>absurd rfl h⟩
structure vx (w:World)(x:dE)(M:List Nat):Prop where
 lw:eN bM.cl 2 w x.h.w x.t.pk.wants M
 lc:eN jD 1 w x.h.c x.t.pk.codes M
 lf:eN uV 1 w x.h.f x.t.pk.filters M
 lp:eN jD 1 w x.hp x.t.bf M
theorem vx.OQ{w:World}{x:dE}{M:List Nat}(h:vx w x M):x.t.In w x.h x.hp:=⟨⟨h.lw.eM,h.lc.eM,h.lf.eM⟩,h.lp.eM⟩
theorem vx.step{w w':World}{x:dE}{M M' M2:List Nat}(k:vx w x M)(hw:ak M' w w')(h1:∀b∈M',b∈M\/w.heap.size<=b)(h2:∀b∈M2,b∈M\/w.heap.size<=b):vx w' x M2:=⟨k.lw.step hw h1 h2,k.lc.step hw h1 h2,k.lf.step hw h1 h2,k.lp.step hw h1 h2⟩
def dS(k cn:Int):Tn:={ig k with conn:=cn}
structure oL (C:bT)(B p tb:Nat)(t0:Tn)(l:List UInt8)(w:World)(e:Ending)(w':World):Prop where
 wrote:ak [p,tb] w w'
 out:(fB C false t0 l=none/\e=.panicked (given 390))\/∃(y:dE)(l':List UInt8),fB C false t0 l=some (y.t,l')/\e=.returned (.tuple #[])/\Rd w' B p l'/\ar w' tb y.cells.toArray 55/\∀M,(∀b∈M,b<w.heap.size)->vx w' y M
def yL(C:bT)(k:Int):Prop:=∀c v,df c k=some v->∃f1 c1 f2 c2 f3 c3 f4 c4,v=.agg #[bG f1 c1,bG f2 c2,bG f3 c3,bG f4 c4]/\gY f4/\
 ∀W B p l tb cn,Rd W B p l->ar W tb ((dS k cn).cells bo bQ).toArray 55->B<=tb->Calls prog f4 (#[.agg #[.pointer (some ⟨p,0,none⟩)],.pointer (some ⟨tb,0,none⟩)]++c4) W (oL C B p tb (dS k cn) l W)
theorem Tg(W:World)(B p rb:Nat)(l:List UInt8)(hR:Rd W B p l)(hb:ar W rb #[.pointer (some ⟨p,0,none⟩)] 61):Calls prog 22 #[.pointer (some ⟨rb,0,none⟩)] W (Lp 2 B p l W):=by
 have CN:=af (eT hR 2 (by decide) (by decide));go_enter func22,ntmps22;go_wp2_with (refine wL 61 rfl rfl hb underlying61 ?_)
 refine CN.mono ?_;rintro e w1 (⟨hx,rfl,bL⟩ | ⟨x,hx,rfl,jP,bL⟩)
 ·exact⟨rfl,.inl ⟨hx,rfl,bL⟩⟩
 have H:=af (show Lp 2 B p l W (.returned (.int .i64 x.1)) w1 from .inr ⟨x,hx,rfl,jP,bL⟩);clear hx jP bL;go_wp2;go_ret;exact H.out
structure dD (b:Bool)(w:World)(e:Ending)(w':World):Prop where
 out:e=.returned (.bool b)/\Below w.heap.size w w'
structure Ti (b:Bool)(w:World)(e:Ending)(w':World):Prop where
 out:∃z:Int,e=.returned (.int .i64 z)/\(0<=z↔b=true)/\Below w.heap.size w w'
theorem DU{α:Type}{p:α->Bool}{l:List α}{k:Nat}{x:α}(h:l[k]?=some x)(hp:p x=true):l.any p=true:=List.any_eq_true.2 ⟨x,List.mem_of_getElem? h,hp⟩
theorem DW{α:Type}{p:α->Bool}{l:List α}(h:∀(j:Nat) x,l[j]?=some x->p x=false):l.any p=false:=by rw[List.any_eq_false];intro x hx;obtain⟨j,hj,e⟩:=List.getElem_of_mem hx;rw[h j x (by rw[<-e];exact List.getElem?_eq_getElem hj)];simp
theorem Tj(g:FuncId)(lb:Array Value)(p:Int->Bool){w:World}{a:Option Addr}{n c:Nat}{l:List Int}(h:aW jD 1 w a n c l)(eg:gY g)
  (hg:∀W x,x∈l->Below w.heap.size w W->Calls prog g (#[qD x]++lb) W (dD (p x) W)):Calls prog 98 #[.slice a n c,.func (.func g) #[] lb] w (Ti (l.any p) w):=by
 have hle:=h.le;have mM:=h.max;unfold maxLen at mM;have hn:n<=9223372036854775807:=by omega
 have HL:=af h.len;have HG:=af hg;have HV:=af h;unfold gY at eg;clear hle mM hg h;go_enter func98,ntmps98;go_wp2_with fail
 go_loopw [8] (fun i wr=>∃k:Nat,i=.int .i64 k/\k<=n/\Hid (Below w.heap.size w wr)/\Hid (∀j x,j<k->l[j]?=some x->p x=false)) (fun i _=>n-(intOf i).toNat)
 case atStart=>exact⟨0,rfl,Nat.zero_le _,af ai,af fun j x hj=>absurd hj (Nat.not_lt_zero _)⟩
 case round=>
  obtain⟨k,rfl,hk,hB,hall⟩:=hrel;rcases Nat.lt_or_ge k n with hlt | jw
  ·obtain⟨x,hx⟩:∃x,l[k]?=some x:=⟨_,List.getElem?_eq_getElem (by rw[HL.out];exact hlt)⟩;obtain⟨g1,o1,ha,hr⟩:=HV.range hx;have hc:=hr _ hB.out;have CC:=af (HG wr x (List.mem_of_getElem? hx) hB.out);subst ha;replace hx:=af hx;clear hr;(have h0:=hc 0 (.int .i64 x) rfl;simp only[Nat.mul_one,Nat.add_zero]at h0;unfold qD at CC;clear hc);go_wp2_with fail
   refine CC.mono ?_;rintro e w1 ⟨rfl,hb1⟩;have gH:=af (hB.out.trans (hb1.mono hB.out.size));clear hb1;cases hp:p x with
   | false=>
    replace hp:=af hp;go_wp2_with fail;go_roundw
    case rel=>
     refine⟨k+1,by go_num,by omega,gH,af fun j y hj hy=>?_⟩;by_cases hjk:j=k
     ·subst hjk;rw[hx.out]at hy;cases hy;exact hp.out
     exact hall.out j y (by omega) hy
    case measure=>simp[intOf];omega
   |true=>have Lq:=af (DU hx.out hp);clear hp;go_wp2_with fail;go_ret;exact⟨_,rfl,⟨fun _=>Lq.out,fun _=>by omega⟩,gH.out⟩
  obtain rfl:k=n:=by omega
  have hno:=af (DW (p:=p) (l:=l) (fun j x hj=>hall.out j x (by have:=(List.getElem?_eq_some_iff.1 hj).1;have:=HL.out;omega) hj));go_wp2_with fail
  go_ret;exact⟨-1,rfl,⟨fun h=>by omega,fun h=>by rw[hno.out]at h;cases h⟩,hB.out⟩
theorem FK(g:FuncId)(lb:Array Value)(p:Int->Bool){w:World}{a:Option Addr}{n c:Nat}{l:List Int}(h:aW jD 1 w a n c l)(eg:gY g)
  (hg:∀W x,x∈l->Below w.heap.size w W->Calls prog g (#[qD x]++lb) W (dD (p x) W)):Calls prog 68 #[.slice a n c,.func (.func g) #[] lb] w (dD (l.any p) w):=by
 have HG:=af (Tj g lb p h eg hg);clear hg eg h;obtain⟨b,hb⟩:=ae (l.any p);rw[hb]at HG ⊢;clear hb;go_enter func68,ntmps68;go_wp2_with fail
 refine HG.mono ?_;rintro e w1 ⟨z,rfl,hz,hb1⟩;have gH:=af hb1;clear hb1;cases b with
 |true=>have h0:0<=z:=hz.2 rfl;clear hz;go_wp2_with fail;go_ret;exact⟨by simp[h0],gH.out⟩
 |false=>
  have h0:¬0<=z:=fun h=>by have:=hz.1 h;cases this
  have d0:decide (0<=z)=false:=decide_eq_false h0;clear hz;go_wp2_with fail;go_ret;exact⟨by simp[h0],gH.out⟩
end
end Go.Proofs.YtkghejaimhoboaaGreatDoor
