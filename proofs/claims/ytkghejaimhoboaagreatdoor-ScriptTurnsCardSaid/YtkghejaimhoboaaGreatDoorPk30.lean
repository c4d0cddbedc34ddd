/- Parts of the proof of ScriptTurns. -/
import Derived.Test.YtkghejaimhoboaaGreatDoorPk28
import Derived.Test.YtkghejaimhoboaaGreatDoorPk24
import Derived.Test.YtkghejaimhoboaaGreatDoorPk26
import Derived.Test.YtkghejaimhoboaaGreatDoorPk29
set_option linter.unusedSimpArgs false
set_option linter.unusedVariables false
set_option maxRecDepth 100000
set_option maxHeartbeats 8000000
namespace Go.Proofs.YtkghejaimhoboaaGreatDoor
open Go.RowKit Go.Shelf Go.Proofs.Tryz
section
attribute [local go_sem] Oper.semAt_some
theorem vD(s:List UInt8)(w:World)(h:s.length<=4611686018427387904):∃c w',(convert 9 22 (.string ⟨s.toArray⟩)).run prog w=.ok (.slice (some ⟨w.heap.size,0,none⟩) s.length c) w'/\ax w' (some ⟨w.heap.size,0,none⟩) s.length c (bs s)/\Below w.heap.size w w':=by
 have h1:=run_bytes_of_string (P:=prog) w 9 22 5 ⟨s.toArray⟩ underlying9 underlying22 underlying5;have hsz:ByteArray.size ⟨s.toArray⟩=s.length:=by simp[ByteArray.size]
 have jw:=grownCap_ge w s.length 0 5;have hle:=grownCap_le_maxLen w s.length 0 5 (by unfold maxLen;omega);rw[hsz]at h1;obtain⟨cp,hcp⟩:=ae (grownCap w s.length 0 5);rw[hcp]at h1 jw hle;obtain⟨cs,hcs⟩:=ae (bytesRow ⟨s.toArray⟩ cp);rw[hcs]at h1;have hl:cs.size=cp:=by rw[<-hcs];unfold bytesRow;rw[hsz];simp;omega
 refine⟨cp,_,h1,?_,((Below.refl w.heap.size w).drew).alloc ah _⟩;have hr:=(ax.new w.drew cs 5 (cs.size,cs.size+1) (by rw[hl];exact hle)).take s.length (by omega);have hc:ax (w.drew.alloc (.cells cs 5 (cs.size,cs.size+1))) (some ⟨w.heap.size,0,none⟩) s.length cp (cs.toList.take s.length):=hl▸hr;have he:cs.toList.take s.length=bs s:=by rw[<-hcs];unfold bytesRow bs;rw[Array.toList_append,List.take_append_of_le_length (by simp),List.take_of_length_le (by simp)];simp
 rw[he]at hc;exact hc
structure vE (w:World)(p:Pk)(h:H3)(M:List Nat):Prop where
 lw:eN bM.cl 2 w h.w p.wants M
 lc:eN jD 1 w h.c p.codes M
 lf:eN uV 1 w h.f p.filters M
def rR(C:bT):Prop:=∀W a n c s,ax W a n c (bs s)->n<=65536->Calls prog 57 #[.slice a n c] W fun e w'=>Below W.heap.size W w'/\
 ∃(y:Pk)(h:H3)(z:Int),e=.returned (.tuple #[.agg (y.cells h).toArray,.int .i64 z])/\((z=0/\C.parse s=some y)\/(z≠0/\C.parse s=none))/\∀M,(∀b∈M,b<W.heap.size)->vE w' y h M
def bF:Array Value:=((aN 0).cells bo).toArray
theorem LR(C:bT)(hP:rR C)(W:World)(B p tb:Nat)(l:List UInt8)(cn:Int)(hR:Rd W B p l)(hb:ar W tb ((dS 2 cn).cells bo bQ).toArray 55)(hB:B<=tb):
  Calls prog 56 #[.agg #[.pointer (some ⟨p,0,none⟩)],.pointer (some ⟨tb,0,none⟩)] W (oL C B p tb (dS 2 cn) l W):=by
 have CM:=af lX;obtain⟨W0,hW0⟩:=ae (W.alloc (.cells #[.pointer (some ⟨p,0,none⟩)] 61));have b0:Below W.heap.size W W0:=by rw[<-hW0];exact ai.alloc ah _
 have hx0:ar W0 W.heap.size #[.pointer (some ⟨p,0,none⟩)] 61:=by rw[<-hW0];exact ar.new _ _ _
 have CX:=af (qB (hR.ag b0));have gH:=af (hb.ag b0);have K0:Hid (ak [p,tb] W W0):=af (ak.aK b0);have kF:=hR.lt;have mF:=hR.base;have sB:=af hb.lt;have s0:=af b0.size;clear hb b0 hR;go_enter func56,ntmps56;go_wp2_with (refine wL 61 rfl rfl hx0 underlying61 ?_)
 refine CX.mono ?_;rintro e w1 (⟨hno,rfl,bL⟩ | ⟨⟨s,r⟩,hx,rfl,jP,bL⟩)
 ·refine⟨rfl,K0.trans (bL.sub (by simp)),.inl ⟨?_,rfl⟩⟩;rw[mg (t:=dS 2 cn) rfl,hno];rfl
 dsimp only at jP ⊢;have sX:s.length<=65536:=by have:=(cg hx).2;omega
 obtain⟨cp,w2,hcv,hrow,hb2⟩:=vD s w1 (by omega);have ZU:=af ((gH.aw bL (by simp;omega)).ag hb2);have mC:=af (jP.ag hb2);have K2:=af ((K0.trans (bL.sub (by simp))).trans (ak.aK hb2));have CP:=af (hP w2 (some ⟨w1.heap.size,0,none⟩) s.length cp s hrow sX);have hx:=af hx;clear bL jP hrow hb2 sX;go_upto_region 2 with fail;refine CP.mono ?_;rintro e w3 ⟨hb3,y,h,z,rfl,hz,hN⟩;have aV:Hid (∀v∈(y.cells h).toArray.toList,v.oneCell'=true):=af (Pk.one y h);obtain⟨yc,eE⟩:=ae ((y.cells h).toArray);have Cb:Hid (yc.size=24):=af (by rw[<-eE];rfl);have iy:(prog.info? 52).map (·.size)=some yc.size:=by rw[Cb];exact(by kernel_rfl:(prog.info? 52).map (·.size)=some 24)
 rw[eE]at aV ⊢;have eE:=af eE;have hN:=af hN;have Nt:=af hb3;have ht3:=af (ZU.ag hb3);have Xl:=af (mC.ag hb3);have K3:=af (K2.trans (ak.aK hb3));have s3:=af hb3.size;clear hb3;replace hz:=af hz;go_upto_region 2 with(refine wS 52 24 rfl _ _ yc rfl rfl (ar.new _ _ _) Cb.out rfl aV.out ?_;intro w4 hw4 hr4);have hz3:w3.heap.size+1<=w4.heap.size:=by have:=hr4.size;simp at this;omega
 have D9:=af (((Below.refl w3.heap.size w3).alloc ah _).trans (hr4.ag (n₀:=w3.heap.size) (by simp) (by simp)));have ht4:=ht3.ag D9.out;have K4:=af (K3.trans (ak.aK D9.out));clear hr4;by_cases h0:z=0
 ·subst h0;have Sk:Hid (C.parse s=some y):=af (by rcases hz.out with⟨-,h⟩ | ⟨h, -⟩;exact h;exact absurd rfl h);obtain⟨tc,pT⟩:=ae (((dS 2 cn).cells bo bQ).toArray);have Dm:Hid (tc.size=30):=af (by rw[<-pT];rfl);have LP:Hid (kM tc 2 yc=(({dS 2 cn with pk:=y}:Tn).cells h bQ).toArray):=af (by rw[<-pT,<-eE.out];rfl);rw[pT]at ht4;clear pT hz;go_wp2_with (first
   | (go_at_call 19;refine(CM _ _ _).mono ?_;rintro e w9 ⟨rfl,rfl⟩)
   | (refine wL 52 rfl rfl hw4 underlying52 ?_ rfl rfl iy)
   | (refine wpList_store_mid rfl 52 55 _ _ rfl 24 (fun w=>by kernel_rfl) tb 2 tc yc rfl rfl ht4 Cb.out (by rw[Dm];decide) aV.out ?_;intro w5 eo fh))
  rw[LP]at eo;have Xy:=(Xl.ag D9.out).wrote fh (by simp;exact hB);have H:oL C B p tb (dS 2 cn) l W (.returned (.tuple #[])) w5:=⟨K4.trans (fh.sub (by simp)),.inr ⟨⟨{dS 2 cn with pk:=y},h,bQ⟩,r,by rw[mg (t:=dS 2 cn) rfl,hx.out,Option.bind_some];dsimp only;rw[Sk];rfl,rfl,Xy,eo,fun M hM=>?_⟩⟩
  ·go_end0
   exact H
  have hk:=hN (tb::M) (fun b hb=>by
   have h1:=K2.size;have h2:=sB.out;rcases List.mem_cons.1 hb with rfl | hb
   ·omega
   have:=hM b hb;omega)
  have st:∀{α:Type}{f:α->List Value}{sz:Nat}{hd:Hd}{xs:List α},eN f sz w3 hd xs (tb::M)->eN f sz w5 hd xs M:=fun k=>(k.step (ak.aK (M:=[]) D9.out) (fun b hb=>by cases hb) (fun b hb=>.inl hb)).step fh (fun b hb=>.inl (by simp at hb;simp[hb])) (fun b hb=>.inl (List.mem_cons_of_mem _ hb))
  exact⟨st hk.lw,st hk.lc,st hk.lf,eN.nil w5 M⟩
 have d0:(z==0)=false:=by simpa using h0
 have Sk:Hid (C.parse s=none):=af (by rcases hz.out with⟨h, -⟩ | ⟨-,h⟩;exact absurd h h0;exact h);clear hz ht4 hw4;go_wp2_with (go_at_call 19;refine(CM _ _ _).mono ?_;rintro e w9 ⟨rfl,rfl⟩);refine⟨rfl,K4.out,.inl ⟨?_,rfl⟩⟩;rw[mg (t:=dS 2 cn) rfl,hx.out,Option.bind_some];dsimp only;rw[Sk];rfl
theorem II(C:bT)(hP:rR C)(k:Int):yL C k:=fun c v hv=>by
 have OI:1<=k/\k<=8:=by refine Classical.byContradiction fun h=>?_;unfold df at hv;rw[if_neg (by omega),if_neg (by omega),if_neg (by omega),if_neg (by omega),if_neg (by omega),if_neg (by omega),if_neg (by omega),if_neg (by omega)]at hv;cases hv
 have:k=1\/k=2\/k=3\/k=4\/k=5\/k=6\/k=7\/k=8:=by omega
 rcases this with rfl | rfl | rfl | rfl | rfl | rfl | rfl | rfl
 ·obtain rfl:sD=v:=Option.some.inj hv;refine⟨_,_,_,_,_,_,_,_,rfl,enters_of func48 (by kernel_rfl) rfl,fun W B p l tb cn hR hb hB=>?_⟩;exact jt C 1 (by decide) W B p tb l cn hR hb
 ·obtain rfl:Ov c=v:=Option.some.inj hv;refine⟨_,_,_,_,_,_,_,_,rfl,enters_of func56 (by kernel_rfl) rfl,fun W B p l tb cn hR hb hB=>?_⟩;exact LR C hP W B p tb l cn hR hb hB
 ·obtain rfl:yx c=v:=Option.some.inj hv;refine⟨_,_,_,_,_,_,_,_,rfl,enters_of func61 (by kernel_rfl) rfl,fun W B p l tb cn hR hb hB=>?_⟩;exact ID C W B p tb l cn hR hb hB
 ·obtain rfl:sD=v:=Option.some.inj hv;refine⟨_,_,_,_,_,_,_,_,rfl,enters_of func48 (by kernel_rfl) rfl,fun W B p l tb cn hR hb hB=>?_⟩;exact jt C 4 (by decide) W B p tb l cn hR hb
 ·obtain rfl:jc=v:=Option.some.inj hv;refine⟨_,_,_,_,_,_,_,_,rfl,enters_of func48 (by kernel_rfl) rfl,fun W B p l tb cn hR hb hB=>?_⟩;exact jt C 5 (by decide) W B p tb l cn hR hb
 ·obtain rfl:jc=v:=Option.some.inj hv;refine⟨_,_,_,_,_,_,_,_,rfl,enters_of func48 (by kernel_rfl) rfl,fun W B p l tb cn hR hb hB=>?_⟩;exact jt C 6 (by decide) W B p tb l cn hR hb
 ·obtain rfl:Ow=v:=Option.some.inj hv;refine⟨_,_,_,_,_,_,_,_,rfl,enters_of func66 (by kernel_rfl) rfl,fun W B p l tb cn hR hb hB=>?_⟩;exact IG C W B p tb l cn hR hb hB
 obtain rfl:yy=v:=Option.some.inj hv;refine⟨_,_,_,_,_,_,_,_,rfl,enters_of func72 (by kernel_rfl) rfl,fun W B p l tb cn hR hb hB=>?_⟩;exact IE C W B p tb l cn hR hb hB
end
structure IJ (w:World)(pc:Array Value)(W:World):Prop where
 ag:Below w.heap.size w W
 pk:ar W w.heap.size pc 52
theorem IJ.step{w:World}{pc:Array Value}{W W':World}(x:IJ w pc W)(hb:Below W.heap.size W W'):IJ w pc W':=⟨x.ag.trans (hb.mono x.ag.size),x.pk.ag hb⟩
theorem IJ.start(w:World)(pc:Array Value):IJ w pc (w.alloc (.cells pc 52)):=⟨ai.alloc ah _,ar.new _ _ _⟩
theorem dD.mk'{b c:Bool}{w w':World}(h:c=b)(hb:Below w.heap.size w w'):dD b w (.returned (.bool c)) w':=⟨by rw[h],hb⟩
section
attribute [local go_sem] Oper.semAt_some
theorem IK(p:Pk)(W:World):(Instr.build 52 #[(7,.string ⟨p.client.toArray⟩),(8,.bool p.clean),(9,.int .i64 p.keep),(10,.bool p.hasWill),(11,.agg #[.string ⟨p.will.topic.toArray⟩,.string ⟨p.will.body.toArray⟩,.int .i64 p.will.qos,.bool p.will.retain]),(12,.bool p.hasUser),(13,.bool p.hasPass),(14,.string ⟨p.user.toArray⟩),(15,.string ⟨p.pass.toArray⟩)]).run prog W=.ok (.agg (({aN 0 with client:=p.client,clean:=p.clean,keep:=p.keep,hasWill:=p.hasWill,will:=p.will,hasUser:=p.hasUser,hasPass:=p.hasPass,user:=p.user,pass:=p.pass}:Pk).cells bo).toArray) W:=by kernel_rfl
theorem IL(p:Pk)(h:H3)(w:World):Calls prog 200 #[.agg (p.cells h).toArray] w fun e w'=>e=.returned (.agg (({aN 0 with client:=p.client,clean:=p.clean,keep:=p.keep,hasWill:=p.hasWill,hasUser:=p.hasUser,hasPass:=p.hasPass,user:=p.user,pass:=p.pass,will:=p.will}:Pk).cells bo).toArray)/\Below w.heap.size w w':=by
 obtain⟨cs,hcs⟩:=ae ((p.cells h).toArray);have hB:ar (w.alloc (.cells cs 52)) w.heap.size cs 52:=ar.new _ _ _;have jC:ar ((w.alloc (.cells cs 52)).alloc (.cells bF 52)) w.heap.size cs 52:=hB.alloc _;have hZ:ar ((w.alloc (.cells cs 52)).alloc (.cells bF 52)) (w.heap.size+1) bF 52:=by have:=ar.new (w.alloc (.cells cs 52)) bF 52;simpa using this
 have hb2:Below w.heap.size w ((w.alloc (.cells cs 52)).alloc (.cells bF 52)):=(ai.alloc ah _).alloc (by simp) _;have k7:∀o,((w.alloc (.cells cs 52)).alloc o).cell? ⟨w.heap.size,7,none⟩=some (.string ⟨p.client.toArray⟩):=fun o=>by rw[(hB.alloc o).cell,<-hcs];rfl
 have k8:∀o,((w.alloc (.cells cs 52)).alloc o).cell? ⟨w.heap.size,8,none⟩=some (.bool p.clean):=fun o=>by rw[(hB.alloc o).cell,<-hcs];rfl
 have k9:∀o,((w.alloc (.cells cs 52)).alloc o).cell? ⟨w.heap.size,9,none⟩=some (.int .i64 p.keep):=fun o=>by rw[(hB.alloc o).cell,<-hcs];rfl
 have gI:∀o,((w.alloc (.cells cs 52)).alloc o).cell? ⟨w.heap.size,10,none⟩=some (.bool p.hasWill):=fun o=>by rw[(hB.alloc o).cell,<-hcs];rfl
 have Fz:∀o,((w.alloc (.cells cs 52)).alloc o).cell? ⟨w.heap.size,15,none⟩=some (.bool p.hasUser):=fun o=>by rw[(hB.alloc o).cell,<-hcs];rfl
 have yC:∀o,((w.alloc (.cells cs 52)).alloc o).cell? ⟨w.heap.size,16,none⟩=some (.bool p.hasPass):=fun o=>by rw[(hB.alloc o).cell,<-hcs];rfl
 have KX:∀o,((w.alloc (.cells cs 52)).alloc o).cell? ⟨w.heap.size,17,none⟩=some (.string ⟨p.user.toArray⟩):=fun o=>by rw[(hB.alloc o).cell,<-hcs];rfl
 have Jz:∀o,((w.alloc (.cells cs 52)).alloc o).cell? ⟨w.heap.size,18,none⟩=some (.string ⟨p.pass.toArray⟩):=fun o=>by rw[(hB.alloc o).cell,<-hcs];rfl
 have wM:=jC.mid ((p.cells h).take 11) [.string ⟨p.will.topic.toArray⟩,.string ⟨p.will.body.toArray⟩,.int .i64 p.will.qos,.bool p.will.retain] ((p.cells h).drop 15) (by rw[<-hcs];rfl);have aV:=af (Pk.one ({aN 0 with client:=p.client,clean:=p.clean,keep:=p.keep,hasWill:=p.hasWill,hasUser:=p.hasUser,hasPass:=p.hasPass,user:=p.user,pass:=p.pass,will:=p.will}) (bo));rw[hcs];clear hcs hB jC;replace hb2:=af hb2;unfold bF at*
 go_enter func200,ntmps200;go_wp2_with (first
  | (refine wS 52 24 rfl (w.heap.size+1) _ _ rfl rfl hZ rfl rfl aV.out ?_;intro w2 hw2 hr2)
  | (refine sF 47 rfl rfl wM underlying47 ?_)
  | (refine iH 52 rfl #[(7,.string ⟨p.client.toArray⟩),(8,.bool p.clean),(9,.int .i64 p.keep),(10,.bool p.hasWill),(11,.agg #[.string ⟨p.will.topic.toArray⟩,.string ⟨p.will.body.toArray⟩,.int .i64 p.will.qos,.bool p.will.retain]),(12,.bool p.hasUser),(13,.bool p.hasPass),(14,.string ⟨p.user.toArray⟩),(15,.string ⟨p.pass.toArray⟩)] rfl _ (IK p) ?_))
 refine bodyPost_ret (aJ results200 rfl (aj hw2 52 underlying52 rfl (by kernel_rfl))) rfl ⟨rfl,hb2.trans (hr2.ag (by simp;omega) (by simp))⟩
theorem IP(p:Pk)(h:H3)(w:World):Calls prog 205 #[.agg (p.cells h).toArray] w fun e w'=>e=.returned (.agg (({aN 0 with topic:=p.topic,body:=p.body,qos:=p.qos,retain:=p.retain,id:=p.id,dup:=p.dup}:Pk).cells bo).toArray)/\Below w.heap.size w w':=by
 obtain⟨cs,hcs⟩:=ae ((p.cells h).toArray);have hB:ar (w.alloc (.cells cs 52)) w.heap.size cs 52:=ar.new _ _ _;have jC:ar ((w.alloc (.cells cs 52)).alloc (.cells bF 52)) w.heap.size cs 52:=hB.alloc _;have hZ:ar ((w.alloc (.cells cs 52)).alloc (.cells bF 52)) (w.heap.size+1) bF 52:=by have:=ar.new (w.alloc (.cells cs 52)) bF 52;simpa using this
 have hb2:Below w.heap.size w ((w.alloc (.cells cs 52)).alloc (.cells bF 52)):=(ai.alloc ah _).alloc (by simp) _;have k4:∀o,((w.alloc (.cells cs 52)).alloc o).cell? ⟨w.heap.size,4,none⟩=some (.string ⟨p.topic.toArray⟩):=fun o=>by rw[(hB.alloc o).cell,<-hcs];rfl
 have k5:∀o,((w.alloc (.cells cs 52)).alloc o).cell? ⟨w.heap.size,5,none⟩=some (.string ⟨p.body.toArray⟩):=fun o=>by rw[(hB.alloc o).cell,<-hcs];rfl
 have k3:∀o,((w.alloc (.cells cs 52)).alloc o).cell? ⟨w.heap.size,3,none⟩=some (.int .i64 p.qos):=fun o=>by rw[(hB.alloc o).cell,<-hcs];rfl
 have k2:∀o,((w.alloc (.cells cs 52)).alloc o).cell? ⟨w.heap.size,2,none⟩=some (.bool p.retain):=fun o=>by rw[(hB.alloc o).cell,<-hcs];rfl
 have k6:∀o,((w.alloc (.cells cs 52)).alloc o).cell? ⟨w.heap.size,6,none⟩=some (.int .i64 p.id):=fun o=>by rw[(hB.alloc o).cell,<-hcs];rfl
 have k1:∀o,((w.alloc (.cells cs 52)).alloc o).cell? ⟨w.heap.size,1,none⟩=some (.bool p.dup):=fun o=>by rw[(hB.alloc o).cell,<-hcs];rfl
 have aV:=af (Pk.one ({aN 0 with topic:=p.topic,body:=p.body,qos:=p.qos,retain:=p.retain,id:=p.id,dup:=p.dup}) (bo));rw[hcs];clear hcs hB jC;replace hb2:=af hb2;unfold bF at*
 go_enter func205,ntmps205;go_wp2_with (first
  | (refine wS 52 24 rfl (w.heap.size+1) _ _ rfl rfl hZ rfl rfl aV.out ?_;intro w2 hw2 hr2))
 refine bodyPost_ret (aJ results205 rfl (aj hw2 52 underlying52 rfl (by kernel_rfl))) rfl ⟨rfl,hb2.trans (hr2.ag (by simp;omega) (by simp))⟩
theorem rS(p:Pk)(h:H3)(w:World):Calls prog 121 #[.agg (p.cells h).toArray] w fun e w'=>e=.returned (.agg ((aN 0:Pk).cells bo).toArray)/\Below w.heap.size w w':=by
 obtain⟨cs,hcs⟩:=ae ((p.cells h).toArray);have hB:ar (w.alloc (.cells cs 52)) w.heap.size cs 52:=ar.new _ _ _;have jC:ar ((w.alloc (.cells cs 52)).alloc (.cells bF 52)) w.heap.size cs 52:=hB.alloc _;have hZ:ar ((w.alloc (.cells cs 52)).alloc (.cells bF 52)) (w.heap.size+1) bF 52:=by have:=ar.new (w.alloc (.cells cs 52)) bF 52;simpa using this
 have hb2:Below w.heap.size w ((w.alloc (.cells cs 52)).alloc (.cells bF 52)):=(ai.alloc ah _).alloc (by simp) _;have aV:=af (Pk.one (aN 0) (bo));rw[hcs];clear hcs hB jC;replace hb2:=af hb2;unfold bF at*
 go_enter func121,ntmps121;go_wp2_with (first
  | (refine wS 52 24 rfl (w.heap.size+1) _ _ rfl rfl hZ rfl rfl aV.out ?_;intro w2 hw2 hr2))
 refine bodyPost_ret (aJ results121 rfl (aj hw2 52 underlying52 rfl (by kernel_rfl))) rfl ⟨rfl,hb2.trans (hr2.ag (by simp;omega) (by simp))⟩
theorem IQ(p:Pk)(h:H3)(w:World):Calls prog 125 #[.agg (p.cells h).toArray] w fun e w'=>e=.returned (.agg (({aN 0 with code:=p.code,present:=p.present}:Pk).cells bo).toArray)/\Below w.heap.size w w':=by
 obtain⟨cs,hcs⟩:=ae ((p.cells h).toArray);have hB:ar (w.alloc (.cells cs 52)) w.heap.size cs 52:=ar.new _ _ _;have jC:ar ((w.alloc (.cells cs 52)).alloc (.cells bF 52)) w.heap.size cs 52:=hB.alloc _;have hZ:ar ((w.alloc (.cells cs 52)).alloc (.cells bF 52)) (w.heap.size+1) bF 52:=by have:=ar.new (w.alloc (.cells cs 52)) bF 52;simpa using this
 have hb2:Below w.heap.size w ((w.alloc (.cells cs 52)).alloc (.cells bF 52)):=(ai.alloc ah _).alloc (by simp) _;have Qx:∀o,((w.alloc (.cells cs 52)).alloc o).cell? ⟨w.heap.size,20,none⟩=some (.int .i64 p.code):=fun o=>by rw[(hB.alloc o).cell,<-hcs];rfl
 have U4:∀o,((w.alloc (.cells cs 52)).alloc o).cell? ⟨w.heap.size,19,none⟩=some (.bool p.present):=fun o=>by rw[(hB.alloc o).cell,<-hcs];rfl
 have aV:=af (Pk.one ({aN 0 with code:=p.code,present:=p.present}) (bo));rw[hcs];clear hcs hB jC;replace hb2:=af hb2;unfold bF at*
 go_enter func125,ntmps125;go_wp2_with (first
  | (refine wS 52 24 rfl (w.heap.size+1) _ _ rfl rfl hZ rfl rfl aV.out ?_;intro w2 hw2 hr2))
 refine bodyPost_ret (aJ results125 rfl (aj hw2 52 underlying52 rfl (by kernel_rfl))) rfl ⟨rfl,hb2.trans (hr2.ag (by simp;omega) (by simp))⟩
theorem lI(p:Pk)(h:H3)(w:World):Calls prog 211 #[.agg (p.cells h).toArray] w fun e w'=>e=.returned (.agg ((aN 0:Pk).cells bo).toArray)/\Below w.heap.size w w':=by
 obtain⟨cs,hcs⟩:=ae ((p.cells h).toArray);have hB:ar (w.alloc (.cells cs 52)) w.heap.size cs 52:=ar.new _ _ _;have jC:ar ((w.alloc (.cells cs 52)).alloc (.cells bF 52)) w.heap.size cs 52:=hB.alloc _;have hZ:ar ((w.alloc (.cells cs 52)).alloc (.cells bF 52)) (w.heap.size+1) bF 52:=by have:=ar.new (w.alloc (.cells cs 52)) bF 52;simpa using this
 have hb2:Below w.heap.size w ((w.alloc (.cells cs 52)).alloc (.cells bF 52)):=(ai.alloc ah _).alloc (by simp) _;have aV:=af (Pk.one (aN 0) (bo));rw[hcs];clear hcs hB jC;replace hb2:=af hb2;unfold bF at*
 go_enter func211,ntmps211;go_wp2_with (first
  | (refine wS 52 24 rfl (w.heap.size+1) _ _ rfl rfl hZ rfl rfl aV.out ?_;intro w2 hw2 hr2))
 refine bodyPost_ret (aJ results211 rfl (aj hw2 52 underlying52 rfl (by kernel_rfl))) rfl ⟨rfl,hb2.trans (hr2.ag (by simp;omega) (by simp))⟩
theorem IU(p:Pk)(h:H3)(w:World):Calls prog 131 #[.agg (p.cells h).toArray] w fun e w'=>e=.returned (.agg (({aN 0 with wants:=p.wants}:Pk).cells ⟨h.w,bQ,bQ⟩).toArray)/\Below w.heap.size w w':=by
 obtain⟨cs,hcs⟩:=ae ((p.cells h).toArray);have hB:ar (w.alloc (.cells cs 52)) w.heap.size cs 52:=ar.new _ _ _;have jC:ar ((w.alloc (.cells cs 52)).alloc (.cells bF 52)) w.heap.size cs 52:=hB.alloc _;have hZ:ar ((w.alloc (.cells cs 52)).alloc (.cells bF 52)) (w.heap.size+1) bF 52:=by have:=ar.new (w.alloc (.cells cs 52)) bF 52;simpa using this
 have hb2:Below w.heap.size w ((w.alloc (.cells cs 52)).alloc (.cells bF 52)):=(ai.alloc ah _).alloc (by simp) _;have k21:∀o,((w.alloc (.cells cs 52)).alloc o).cell? ⟨w.heap.size,21,none⟩=some (.slice h.w.a h.w.n h.w.c):=fun o=>by rw[(hB.alloc o).cell,<-hcs];rfl
 have aV:=af (Pk.one ({aN 0 with wants:=p.wants}) (⟨h.w,bQ,bQ⟩));rw[hcs];clear hcs hB jC;replace hb2:=af hb2;unfold bF at*
 go_enter func131,ntmps131;go_wp2_with (first
  | (refine wS 52 24 rfl (w.heap.size+1) _ _ rfl rfl hZ rfl rfl aV.out ?_;intro w2 hw2 hr2))
 refine bodyPost_ret (aJ results131 rfl (aj hw2 52 underlying52 rfl (by kernel_rfl))) rfl ⟨rfl,hb2.trans (hr2.ag (by simp;omega) (by simp))⟩
theorem IV(p:Pk)(h:H3)(w:World):Calls prog 142 #[.agg (p.cells h).toArray] w fun e w'=>e=.returned (.agg (({aN 0 with codes:=p.codes}:Pk).cells ⟨bQ,h.c,bQ⟩).toArray)/\Below w.heap.size w w':=by
 obtain⟨cs,hcs⟩:=ae ((p.cells h).toArray);have hB:ar (w.alloc (.cells cs 52)) w.heap.size cs 52:=ar.new _ _ _;have jC:ar ((w.alloc (.cells cs 52)).alloc (.cells bF 52)) w.heap.size cs 52:=hB.alloc _;have hZ:ar ((w.alloc (.cells cs 52)).alloc (.cells bF 52)) (w.heap.size+1) bF 52:=by have:=ar.new (w.alloc (.cells cs 52)) bF 52;simpa using this
 have hb2:Below w.heap.size w ((w.alloc (.cells cs 52)).alloc (.cells bF 52)):=(ai.alloc ah _).alloc (by simp) _;have QR:∀o,((w.alloc (.cells cs 52)).alloc o).cell? ⟨w.heap.size,22,none⟩=some (.slice h.c.a h.c.n h.c.c):=fun o=>by rw[(hB.alloc o).cell,<-hcs];rfl
 have aV:=af (Pk.one ({aN 0 with codes:=p.codes}) (⟨bQ,h.c,bQ⟩));rw[hcs];clear hcs hB jC;replace hb2:=af hb2;unfold bF at*
 go_enter func142,ntmps142;go_wp2_with (first
  | (refine wS 52 24 rfl (w.heap.size+1) _ _ rfl rfl hZ rfl rfl aV.out ?_;intro w2 hw2 hr2))
 refine bodyPost_ret (aJ results142 rfl (aj hw2 52 underlying52 rfl (by kernel_rfl))) rfl ⟨rfl,hb2.trans (hr2.ag (by simp;omega) (by simp))⟩
theorem IW(p:Pk)(h:H3)(w:World):Calls prog 150 #[.agg (p.cells h).toArray] w fun e w'=>e=.returned (.agg (({aN 0 with filters:=p.filters}:Pk).cells ⟨bQ,bQ,h.f⟩).toArray)/\Below w.heap.size w w':=by
 obtain⟨cs,hcs⟩:=ae ((p.cells h).toArray);have hB:ar (w.alloc (.cells cs 52)) w.heap.size cs 52:=ar.new _ _ _;have jC:ar ((w.alloc (.cells cs 52)).alloc (.cells bF 52)) w.heap.size cs 52:=hB.alloc _;have hZ:ar ((w.alloc (.cells cs 52)).alloc (.cells bF 52)) (w.heap.size+1) bF 52:=by have:=ar.new (w.alloc (.cells cs 52)) bF 52;simpa using this
 have hb2:Below w.heap.size w ((w.alloc (.cells cs 52)).alloc (.cells bF 52)):=(ai.alloc ah _).alloc (by simp) _;have Vg:∀o,((w.alloc (.cells cs 52)).alloc o).cell? ⟨w.heap.size,23,none⟩=some (.slice h.f.a h.f.n h.f.c):=fun o=>by rw[(hB.alloc o).cell,<-hcs];rfl
 have aV:=af (Pk.one ({aN 0 with filters:=p.filters}) (⟨bQ,bQ,h.f⟩));rw[hcs];clear hcs hB jC;replace hb2:=af hb2;unfold bF at*
 go_enter func150,ntmps150;go_wp2_with (first
  | (refine wS 52 24 rfl (w.heap.size+1) _ _ rfl rfl hZ rfl rfl aV.out ?_;intro w2 hw2 hr2))
 refine bodyPost_ret (aJ results150 rfl (aj hw2 52 underlying52 rfl (by kernel_rfl))) rfl ⟨rfl,hb2.trans (hr2.ag (by simp;omega) (by simp))⟩
theorem fD(f:FuncId)(b:Nat)(p:Pk)(h:H3)(y:Pk)(hy:H3)(w:World)(hf:gY f)(hb:Boxed w (b+1) 145 (bG f #[]))(hc:∀W,Calls prog f #[.agg (p.cells h).toArray] W fun e w'=>e=.returned (.agg (y.cells hy).toArray)/\Below W.heap.size W w'):
  Calls prog 184 #[.agg (p.cells h).toArray,.pointer (some ⟨b+1,0,none⟩)] w fun e w'=>e=.returned (.agg (({y with id:=p.id}:Pk).cells hy).toArray)/\Below w.heap.size w w':=by
 obtain⟨cs,hcs⟩:=ae ((p.cells h).toArray);have hB:ar (w.alloc (.cells cs 52)) w.heap.size cs 52:=ar.new _ _ _;have hb1:Below w.heap.size w (w.alloc (.cells cs 52)):=ai.alloc ah _;rw[hcs]at hc ⊢;obtain⟨W0,hW0⟩:=ae (w.alloc (.cells cs 52));have s0:W0.heap.size=w.heap.size+1:=by rw[<-hW0];simp
 rw[hW0]at hB hb1;obtain⟨W1,hW1⟩:=ae (W0.alloc (.cells bF 52));have s1:W1.heap.size=w.heap.size+2:=by rw[<-hW1];simp;omega
 have hb2:Below w.heap.size w W1:=by rw[<-hW1];exact hb1.alloc hb1.size _
 have x1:ar W1 w.heap.size cs 52:=by rw[<-hW1];exact hB.alloc _
 have z1:ar W1 (w.heap.size+1) bF 52:=by have:=ar.new W0 bF 52;rw[hW1,s0]at this;exact this
 have k0:W1.cell? ⟨b+1,0,none⟩=some (bG f #[]):=(aF hb hb2).cell;have ic:(prog.info? 52).map (·.size)=some cs.size:=by rw[<-hcs];exact(by kernel_rfl:(prog.info? 52).map (·.size)=some 24)
 have CC:=af (hc W1);have kid:Hid (∀W,ar W w.heap.size cs 52->W.cell? ⟨w.heap.size,6,none⟩=some (.int .i64 p.id)):=af fun W h=>by rw[h.cell,<-hcs];rfl
 obtain⟨yc,eE⟩:=ae ((y.cells hy).toArray);have aV:Hid (∀v∈yc.toList,v.oneCell'=true):=af (by rw[<-eE];exact Pk.one y hy);have Cb:Hid (yc.size=24):=af (by rw[<-eE];rfl);have iU:Hid (yc.setIfInBounds 6 (.int .i64 p.id)=(({y with id:=p.id}:Pk).cells hy).toArray):=af (by rw[<-eE];rfl);obtain⟨yd,qG⟩:∃yd,(({y with id:=p.id}:Pk).cells hy).toArray=yd:=⟨_,rfl⟩;have O6:Hid (∀v∈yd.toList,v.oneCell'=true):=af (by rw[<-qG];exact Pk.one _ hy);have jE:Hid (yd.size=24):=af (by rw[<-qG];rfl);rw[qG]at iU ⊢;rw[eE]at CC;replace ic:=af ic;replace hb2:=af hb2;replace z1:=af z1;unfold bG at k0;unfold gY at hf;replace hW1:W0.alloc (.cells #[.int .i64 0,.bool false,.bool false,.int .i64 0,.string ⟨#[]⟩,.string ⟨#[]⟩,.int .i64 0,.string ⟨#[]⟩,.bool false,.int .i64 0,.bool false,.string ⟨#[]⟩,.string ⟨#[]⟩,.int .i64 0,.bool false,.bool false,.bool false,.string ⟨#[]⟩,.string ⟨#[]⟩,.bool false,.int .i64 0,.slice none 0 0,.slice none 0 0,.slice none 0 0] 52)=W1:=hW1;clear hcs eE qG hc hB hb1 hb;go_enter func184,ntmps184;have tok:=af trivial;go_upto_region 1 with fail;go_wp2_with (clear tok;refine wL 52 rfl rfl x1 underlying52 ?_ rfl rfl ic.out)
 refine CC.mono ?_;rintro e w2 ⟨rfl,hb3⟩;have x2:=af (x1.ag hb3);have z2:=af (z1.ag hb3);have HB:=af (hb2.trans (hb3.mono hb2.size));have hs2:=hb3.size;clear x1 k0 hb3;go_upto_region 2 with(refine wS 52 24 rfl _ _ yc rfl rfl (ar.new _ _ _) Cb.out (by rfl) aV.out ?_;intro w3 hw3 hr3);have b3:Below w2.heap.size w2 w3:=(ai.alloc ah _).trans (hr3.ag (by simp) (by simp));have hs3:w2.heap.size+1<=w3.heap.size:=by have:=hr3.size;simp at this;omega
 have x3:=x2.ag b3;have z3:=z2.ag b3;have Nt:=af (HB.trans (b3.mono HB.size));have kc:=kid _ x3;have Z3:=af z3;clear hr3 b3 x3 z3;try simp only[PT]
 go_upto_region 3 with(refine aq rfl 2 52 _ _ rfl (fun w=>by kernel_rfl) w2.heap.size 6 yc (.int .i64 p.id) rfl rfl hw3 (by rw[Cb];decide) rfl rfl ?_;intro w4 hw4 hr4)
 rw[iU]at hw4;have z4:=af (Z3.aw hr4 (by simp;omega));have JE:=af (Nt.trans (hr4.ag Nt.size (by simp;omega)));have id2:Hid ((prog.info? 52).map (·.size)=some yd.size):=af (by rw[jE];exact(by kernel_rfl:(prog.info? 52).map (·.size)=some 24));clear hr4 hw3 kc;try simp only[PT]
 go_wp2_with (first
  | (refine wL 52 rfl rfl hw4 underlying52 ?_ rfl rfl id2.out)
  | (refine wS 52 24 rfl (w.heap.size+1) _ yd rfl rfl z4.out jE.out rfl O6.out ?_;intro w5 eo fh))
 refine bodyPost_ret (aJ results184 rfl (aj eo 52 underlying52 rfl id2.out)) rfl ?_;exact⟨rfl,JE.trans (fh.ag JE.size (by simp))⟩
theorem QS(w:World):aW jD 1 (w.alloc (.cells #[.int .i64 128,.int .i64 64,.int .i64 32,.int .i64 4,.int .i64 2] 3)) (some ⟨w.heap.size,0,none⟩) 5 5 [128,64,32,4,2]:=
 cX (f:=jD) (size:=1) (e:=3) (fun x=>rfl) (World.ownsRow_lit w #[.int .i64 128,.int .i64 64,.int .i64 32,.int .i64 4,.int .i64 2] 5 ah (by decide) rfl) rfl
theorem LS(a b c d e:Bool)(w:World):aW Xu 1 (w.alloc (.cells #[.bool a,.bool b,.bool c,.bool d,.bool e] 4)) (some ⟨w.heap.size,0,none⟩) 5 5 [a,b,c,d,e]:=
 cX (f:=Xu) (size:=1) (e:=4) (fun x=>rfl) (World.ownsRow_lit w #[.bool a,.bool b,.bool c,.bool d,.bool e] 5 ah (by decide) rfl) rfl
theorem QT(w:World):aW jD 1 (w.alloc (.cells #[.int .i64 8,.int .i64 1] 3)) (some ⟨w.heap.size,0,none⟩) 2 2 [8,1]:=
 cX (f:=jD) (size:=1) (e:=3) (fun x=>rfl) (World.ownsRow_lit w #[.int .i64 8,.int .i64 1] 2 ah (by decide) rfl) rfl
theorem LU(a b:Bool)(w:World):aW Xu 1 (w.alloc (.cells #[.bool a,.bool b] 4)) (some ⟨w.heap.size,0,none⟩) 2 2 [a,b]:=
 cX (f:=Xu) (size:=1) (e:=4) (fun x=>rfl) (World.ownsRow_lit w #[.bool a,.bool b] 2 ah (by decide) rfl) rfl
theorem O7(p:Pk)(h:0<=p.will.qos):kj [p.hasUser,p.hasPass,p.will.retain,p.hasWill,p.clean] [128,64,32,4,2]+8*p.will.qos=((dT p:Nat):Int):=by unfold dT;simp only[kj];cases p.hasUser<;>cases p.hasPass<;>cases p.will.retain<;>cases p.hasWill<;>cases p.clean<;>simp[aY]<;>omega
theorem O8(p:Pk)(h:0<=p.qos)(hk:p.kind=3):kj [p.dup,p.retain] [8,1]+2*p.qos=((cE p:Nat):Int):=by unfold cE;rw[if_pos hk];simp only[kj];cases p.dup<;>cases p.retain<;>simp[aY]<;>omega
theorem sP(p:Pk)(h:H3)(w:World)(hq:0<=p.will.qos/\p.will.qos<=3):Calls prog 202 #[.agg (p.cells h).toArray] w fun e w'=>e=.returned (.int .i64 (dT p))/\Below w.heap.size w w':=by
 have gj:=af (O7 p hq.1);obtain⟨pc,bt⟩:=ae ((p.cells h).toArray);have kc:Hid (∀W,ar W w.heap.size pc 52->W.cell? ⟨w.heap.size,15,none⟩=some (.bool p.hasUser)/\W.cell? ⟨w.heap.size,16,none⟩=some (.bool p.hasPass)/\W.cell? ⟨w.heap.size,11+3,none⟩=some (.bool p.will.retain)/\W.cell? ⟨w.heap.size,10,none⟩=some (.bool p.hasWill)/\W.cell? ⟨w.heap.size,8,none⟩=some (.bool p.clean)/\W.cell? ⟨w.heap.size,11+2,none⟩=some (.int .i64 p.will.qos)):=af fun W hb=>by rw[<-bt]at hb;exact⟨hb.cell 15,hb.cell 16,hb.cell 14,hb.cell 10,hb.cell 8,hb.cell 13⟩
 rw[bt];replace bt:=af bt;obtain⟨bu,Nv⟩:=ae p.hasUser;obtain⟨bp,JH⟩:=ae p.hasPass;obtain⟨br,hbr⟩:=ae p.will.retain;obtain⟨bw,mH⟩:=ae p.hasWill;obtain⟨bc,o0⟩:=ae p.clean;obtain⟨q,LV⟩:=ae p.will.qos;obtain⟨xV,ht⟩:=ae (((dT p:Nat):Int):Int);rw[Nv,JH,hbr,mH,o0,LV,ht]at gj;rw[Nv,JH,hbr,mH,o0,LV]at kc;rw[LV]at hq;rw[ht];have sX:=qK [bu,bp,br,bw,bc] [128,64,32,4,2] (by decide);obtain⟨sm,hsm⟩:=ae (kj [bu,bp,br,bw,bc] [128,64,32,4,2]);rw[hsm]at sX gj;have hs0:0<=sm:=sX.1;have hs1:sm<=5000:=by have:=sX.2;simpa using this
 have oF:0<=q:=hq.1;have x5:q<=3:=hq.2;clear sX hq Nv JH hbr mH o0 LV ht;obtain⟨W0,hW0⟩:=ae (w.alloc (.cells pc 52));have Xz:Below w.heap.size w W0:=by rw[<-hW0];exact ai.alloc ah _
 have XA:ar W0 w.heap.size pc 52:=by rw[<-hW0];exact ar.new _ _ _
 go_enter func202,ntmps202;go_upto_region 1 with fail
 clear hW0;have PD:ar W0.drew w.heap.size pc 52:=XA;have BD:Below w.heap.size w W0.drew:=Xz.drew;refine aH [(1000,fun w'=>ar w' w.heap.size pc 52)] (by kernel_rfl) ⟨PD,trivial⟩ fun KQ aL=>?_;obtain⟨WD,di⟩:=ae W0.drew;rw[di]at PD BD ⊢;clear di XA Xz;try simp only[PT]
 refine tQ [2] ?_;refine aG 3 rfl (by kernel_rfl) (by kernel_rfl) rfl rfl 0 rfl (by kernel_rfl) (.bool bu) (fun w' hf=>by(have k0:=(kc _ hf).1;go_simp<;>with_reducible rfl)) ?_;simp only[PT];refine tQ [4] ?_;refine aG 5 rfl (by kernel_rfl) (by kernel_rfl) rfl rfl 0 rfl (by kernel_rfl) (.bool bp) (fun w' hf=>by(have k0:=(kc _ hf).2.1;go_simp<;>with_reducible rfl)) ?_;simp only[PT];refine tQ [6,7] ?_;refine aG 8 rfl (by kernel_rfl) (by kernel_rfl) rfl rfl 0 rfl (by kernel_rfl) (.bool br) (fun w' hf=>by(have k0:=(kc _ hf).2.2.1;go_simp<;>with_reducible rfl)) ?_;simp only[PT];refine tQ [9] ?_;refine aG 10 rfl (by kernel_rfl) (by kernel_rfl) rfl rfl 0 rfl (by kernel_rfl) (.bool bw) (fun w' hf=>by(have k0:=(kc _ hf).2.2.2.1;go_simp<;>with_reducible rfl)) ?_;simp only[PT];refine tQ [11] ?_;refine aG 12 rfl (by kernel_rfl) (by kernel_rfl) rfl rfl 0 rfl (by kernel_rfl) (.bool bc) (fun w' hf=>by(have k0:=(kc _ hf).2.2.2.2.1;go_simp<;>with_reducible rfl)) ?_;simp only[PT];refine tQ [15,16] ?_;refine aG 17 rfl (by kernel_rfl) (by kernel_rfl) rfl rfl 0 rfl (by kernel_rfl) (.int .i64 q) (fun w' hf=>by(have k0:=(kc _ hf).2.2.2.2.2;go_simp<;>with_reducible rfl)) ?_;simp only[PT];refine fM 18 rfl (by kernel_rfl) (.int .i64 (8*q)) (by kernel_rfl) (fun w' _=>by go_simp;rw[IntKind.wrap_i64];omega) ?_;try simp only[PT]
 refine dM [0,13] (fun j hj=>?_);have hj:j=0\/j=13:=by simpa using hj
 rcases hj with rfl | rfl
 ·refine⟨⟨_,rfl,by kernel_rfl,fun K hK=>?_⟩⟩;go_simp;have O9:=QS WD;have P1:=PD.alloc (.cells #[.int .i64 128,.int .i64 64,.int .i64 32,.int .i64 4,.int .i64 2] 3);have B1:=BD.alloc BD.size (.cells #[.int .i64 128,.int .i64 64,.int .i64 32,.int .i64 4,.int .i64 2] 3);have gz:Below WD.heap.size WD (WD.alloc (.cells #[.int .i64 128,.int .i64 64,.int .i64 32,.int .i64 4,.int .i64 2] 3)):=ai.alloc ah _;skip;obtain⟨gi,LW⟩:=ae WD.heap.size;obtain⟨W1,hW1⟩:=ae (WD.alloc (.cells #[.int .i64 128,.int .i64 64,.int .i64 32,.int .i64 4,.int .i64 2] 3));rw[hW1]at O9 P1 B1 gz ⊢;rw[LW]at O9 ⊢;refine hK _ _ ⟨⟨fun _=>P1,trivial⟩,?_⟩;clear hK K hW1 LW gz;try simp only[PT]
  refine dM [1,13] (fun j hj=>?_);have hj:j=1\/j=13:=by simpa using hj
  rcases hj with rfl | rfl
  ·refine⟨⟨_,rfl,by kernel_rfl,fun K hK=>?_⟩⟩;go_simp;refine(n6 (some ⟨gi,0,none⟩) 5 5 W1).mono ?_;rintro e w8 ⟨rfl,rfl⟩;have Nw:Boxed (W1.alloc (.cells #[.slice (some ⟨gi,0,none⟩) 5 5] 49)) W1.heap.size 49 (.slice (some ⟨gi,0,none⟩) 5 5):=Boxed.new _ _ _;have P2:=P1.alloc (.cells #[.slice (some ⟨gi,0,none⟩) 5 5] 49);have B2:=B1.alloc B1.size (.cells #[.slice (some ⟨gi,0,none⟩) 5 5] 49);have bz:Below W1.heap.size W1 (W1.alloc (.cells #[.slice (some ⟨gi,0,none⟩) 5 5] 49)):=ai.alloc ah _;obtain⟨gx,hgx⟩:=ae W1.heap.size;obtain⟨W2,hW2⟩:=ae (W1.alloc (.cells #[.slice (some ⟨gi,0,none⟩) 5 5] 49));have yU:=O9.ag bz;rw[hW2]at Nw P2 B2 yU bz ⊢;rw[hgx]at Nw ⊢;refine hK _ _ ⟨⟨fun _=>P2,trivial⟩,?_⟩;clear hK K hW2 hgx bz;try simp only[PT]
   refine sQ 13 fun K hK=>?_;simp only[GO];go_simp;have yV:=LS bu bp br bw bc W2;have P3:=P2.alloc (.cells #[.bool bu,.bool bp,.bool br,.bool bw,.bool bc] 4);have B3:=B2.alloc B2.size (.cells #[.bool bu,.bool bp,.bool br,.bool bw,.bool bc] 4);obtain⟨gb,hgb⟩:=ae W2.heap.size;obtain⟨W3,hW3⟩:=ae (W2.alloc (.cells #[.bool bu,.bool bp,.bool br,.bool bw,.bool bc] 4));have bz:Below W2.heap.size W2 (W2.alloc (.cells #[.bool bu,.bool bp,.bool br,.bool bw,.bool bc] 4)):=ai.alloc ah _;have A5:=yU.ag bz;have wU:=aF Nw bz;rw[hW3]at yV P3 B3 A5 wU ⊢;rw[hgb]at yV ⊢;refine hK _ _ ⟨⟨fun _=>P3,trivial⟩,?_⟩;clear hK K hW3 hgb;try simp only[PT]
   refine sQ 14 fun K hK=>?_;simp only[GO];go_simp;refine(lH [128,64,32,4,2] [bu,bp,br,bw,bc] _ 5 _ _ 5 _ _ W3 wU A5 yV ah (by decide) (by decide)).mono ?_;rintro e w9 ⟨rfl,rfl⟩;refine hK _ _ ⟨⟨fun _=>P3,trivial⟩,?_⟩;clear hK K;rw[hsm];try simp only[PT]
   refine fM 19 rfl (by kernel_rfl) (.int .i64 (sm+8*q)) (by kernel_rfl) (fun w' _=>by go_simp;rw[IntKind.wrap_i64];omega) ?_;try simp only[PT]
   refine tQ [20] ?_;refine dQ (aL.out _ _ ?_);clear aL KQ;go_wp2_with fail;go_ret;exact⟨by rw[gj.out];rfl,B3⟩
  refine⟨⟨_,rfl,by kernel_rfl,fun K hK=>?_⟩⟩;go_simp;have IX:=LS bu bp br bw bc W1;have P2:=P1.alloc (.cells #[.bool bu,.bool bp,.bool br,.bool bw,.bool bc] 4);have B2:=B1.alloc B1.size (.cells #[.bool bu,.bool bp,.bool br,.bool bw,.bool bc] 4);obtain⟨gb,hgb⟩:=ae W1.heap.size;obtain⟨W2,hW2⟩:=ae (W1.alloc (.cells #[.bool bu,.bool bp,.bool br,.bool bw,.bool bc] 4));have bz:Below W1.heap.size W1 (W1.alloc (.cells #[.bool bu,.bool bp,.bool br,.bool bw,.bool bc] 4)):=ai.alloc ah _;have yU:=O9.ag bz;rw[hW2]at IX P2 B2 yU ⊢;rw[hgb]at IX ⊢;refine hK _ _ ⟨⟨fun _=>P2,trivial⟩,?_⟩;clear hK K hW2 hgb;try simp only[PT]
  refine sQ 1 fun K hK=>?_;simp only[GO];go_simp;refine(n6 (some ⟨gi,0,none⟩) 5 5 W2).mono ?_;rintro e w8 ⟨rfl,rfl⟩;have wU:Boxed (W2.alloc (.cells #[.slice (some ⟨gi,0,none⟩) 5 5] 49)) W2.heap.size 49 (.slice (some ⟨gi,0,none⟩) 5 5):=Boxed.new _ _ _;have P3:=P2.alloc (.cells #[.slice (some ⟨gi,0,none⟩) 5 5] 49);have B3:=B2.alloc B2.size (.cells #[.slice (some ⟨gi,0,none⟩) 5 5] 49);have bz:Below W2.heap.size W2 (W2.alloc (.cells #[.slice (some ⟨gi,0,none⟩) 5 5] 49)):=ai.alloc ah _;obtain⟨gx,hgx⟩:=ae W2.heap.size;obtain⟨W3,hW3⟩:=ae (W2.alloc (.cells #[.slice (some ⟨gi,0,none⟩) 5 5] 49));have A5:=yU.ag bz;have yV:=IX.ag bz;rw[hW3]at wU P3 B3 A5 yV bz ⊢;rw[hgx]at wU ⊢;refine hK _ _ ⟨⟨fun _=>P3,trivial⟩,?_⟩;clear hK K hW3 hgx bz;try simp only[PT]
  refine sQ 14 fun K hK=>?_;simp only[GO];go_simp;refine(lH [128,64,32,4,2] [bu,bp,br,bw,bc] _ 5 _ _ 5 _ _ W3 wU A5 yV ah (by decide) (by decide)).mono ?_;rintro e w9 ⟨rfl,rfl⟩;refine hK _ _ ⟨⟨fun _=>P3,trivial⟩,?_⟩;clear hK K;rw[hsm];try simp only[PT]
  refine fM 19 rfl (by kernel_rfl) (.int .i64 (sm+8*q)) (by kernel_rfl) (fun w' _=>by go_simp;rw[IntKind.wrap_i64];omega) ?_;try simp only[PT]
  refine tQ [20] ?_;refine dQ (aL.out _ _ ?_);clear aL KQ;go_wp2_with fail;go_ret;exact⟨by rw[gj.out];rfl,B3⟩
 refine⟨⟨_,rfl,by kernel_rfl,fun K hK=>?_⟩⟩;go_simp;have TG:=LS bu bp br bw bc WD;have P1:=PD.alloc (.cells #[.bool bu,.bool bp,.bool br,.bool bw,.bool bc] 4);have B1:=BD.alloc BD.size (.cells #[.bool bu,.bool bp,.bool br,.bool bw,.bool bc] 4);obtain⟨gb,hgb⟩:=ae WD.heap.size;obtain⟨W1,hW1⟩:=ae (WD.alloc (.cells #[.bool bu,.bool bp,.bool br,.bool bw,.bool bc] 4));skip;rw[hW1]at TG P1 B1 ⊢;rw[hgb]at TG ⊢;refine hK _ _ ⟨⟨fun _=>P1,trivial⟩,?_⟩;clear hK K hW1 hgb;try simp only[PT]
 refine sQ 0 fun K hK=>?_;simp only[GO];go_simp;have yU:=QS W1;have P2:=P1.alloc (.cells #[.int .i64 128,.int .i64 64,.int .i64 32,.int .i64 4,.int .i64 2] 3);have B2:=B1.alloc B1.size (.cells #[.int .i64 128,.int .i64 64,.int .i64 32,.int .i64 4,.int .i64 2] 3);have gz:Below W1.heap.size W1 (W1.alloc (.cells #[.int .i64 128,.int .i64 64,.int .i64 32,.int .i64 4,.int .i64 2] 3)):=ai.alloc ah _;have IX:=TG.ag gz;obtain⟨gi,LW⟩:=ae W1.heap.size;obtain⟨W2,hW2⟩:=ae (W1.alloc (.cells #[.int .i64 128,.int .i64 64,.int .i64 32,.int .i64 4,.int .i64 2] 3));rw[hW2]at yU P2 B2 gz IX ⊢;rw[LW]at yU ⊢;refine hK _ _ ⟨⟨fun _=>P2,trivial⟩,?_⟩;clear hK K hW2 LW gz;try simp only[PT]
 refine sQ 1 fun K hK=>?_;simp only[GO];go_simp;refine(n6 (some ⟨gi,0,none⟩) 5 5 W2).mono ?_;rintro e w8 ⟨rfl,rfl⟩;have wU:Boxed (W2.alloc (.cells #[.slice (some ⟨gi,0,none⟩) 5 5] 49)) W2.heap.size 49 (.slice (some ⟨gi,0,none⟩) 5 5):=Boxed.new _ _ _;have P3:=P2.alloc (.cells #[.slice (some ⟨gi,0,none⟩) 5 5] 49);have B3:=B2.alloc B2.size (.cells #[.slice (some ⟨gi,0,none⟩) 5 5] 49);have bz:Below W2.heap.size W2 (W2.alloc (.cells #[.slice (some ⟨gi,0,none⟩) 5 5] 49)):=ai.alloc ah _;obtain⟨gx,hgx⟩:=ae W2.heap.size;obtain⟨W3,hW3⟩:=ae (W2.alloc (.cells #[.slice (some ⟨gi,0,none⟩) 5 5] 49));have A5:=yU.ag bz;have yV:=IX.ag bz;rw[hW3]at wU P3 B3 A5 yV bz ⊢;rw[hgx]at wU ⊢;refine hK _ _ ⟨⟨fun _=>P3,trivial⟩,?_⟩;clear hK K hW3 hgx bz;try simp only[PT]
 refine sQ 14 fun K hK=>?_;simp only[GO];go_simp;refine(lH [128,64,32,4,2] [bu,bp,br,bw,bc] _ 5 _ _ 5 _ _ W3 wU A5 yV ah (by decide) (by decide)).mono ?_;rintro e w9 ⟨rfl,rfl⟩;refine hK _ _ ⟨⟨fun _=>P3,trivial⟩,?_⟩;clear hK K;rw[hsm];try simp only[PT]
 refine fM 19 rfl (by kernel_rfl) (.int .i64 (sm+8*q)) (by kernel_rfl) (fun w' _=>by go_simp;rw[IntKind.wrap_i64];omega) ?_;try simp only[PT]
 refine tQ [20] ?_;refine dQ (aL.out _ _ ?_);clear aL KQ;go_wp2_with fail;go_ret;exact⟨by rw[gj.out];rfl,B3⟩
theorem sR(p:Pk)(h:H3)(w:World)(hk:p.kind=3)(hq:0<=p.qos/\p.qos<=3):Calls prog 206 #[.agg (p.cells h).toArray] w fun e w'=>e=.returned (.int .i64 (cE p))/\Below w.heap.size w w':=by
 have gj:=af (O8 p hq.1 hk);obtain⟨pc,bt⟩:=ae ((p.cells h).toArray);have kc:Hid (∀W,ar W w.heap.size pc 52->W.cell? ⟨w.heap.size,1,none⟩=some (.bool p.dup)/\W.cell? ⟨w.heap.size,2,none⟩=some (.bool p.retain)/\W.cell? ⟨w.heap.size,3,none⟩=some (.int .i64 p.qos)):=af fun W hb=>by rw[<-bt]at hb;exact⟨hb.cell 1,hb.cell 2,hb.cell 3⟩
 rw[bt];replace bt:=af bt;obtain⟨bu,Nv⟩:=ae p.dup;obtain⟨bp,JH⟩:=ae p.retain;obtain⟨q,LV⟩:=ae p.qos;obtain⟨xV,ht⟩:=ae (((cE p:Nat):Int):Int);rw[Nv,JH,LV,ht]at gj;rw[Nv,JH,LV]at kc;rw[LV]at hq;rw[ht];have sX:=qK [bu,bp] [8,1] (by decide);obtain⟨sm,hsm⟩:=ae (kj [bu,bp] [8,1]);rw[hsm]at sX gj;have hs0:0<=sm:=sX.1;have hs1:sm<=5000:=by have:=sX.2;simp at this;omega
 have oF:0<=q:=hq.1;have x5:q<=3:=hq.2;clear sX hq Nv JH LV ht hk;obtain⟨W0,hW0⟩:=ae (w.alloc (.cells pc 52));have Xz:Below w.heap.size w W0:=by rw[<-hW0];exact ai.alloc ah _
 have XA:ar W0 w.heap.size pc 52:=by rw[<-hW0];exact ar.new _ _ _
 go_enter func206,ntmps206;go_upto_region 1 with fail
 clear hW0;have PD:ar W0.drew w.heap.size pc 52:=XA;have BD:Below w.heap.size w W0.drew:=Xz.drew;refine aH [(1000,fun w'=>ar w' w.heap.size pc 52)] (by kernel_rfl) ⟨PD,trivial⟩ fun KQ aL=>?_;obtain⟨WD,di⟩:=ae W0.drew;rw[di]at PD BD ⊢;clear di XA Xz;try simp only[PT]
 refine tQ [2] ?_;refine aG 3 rfl (by kernel_rfl) (by kernel_rfl) rfl rfl 0 rfl (by kernel_rfl) (.bool bu) (fun w' hf=>by(have k0:=(kc _ hf).1;go_simp<;>with_reducible rfl)) ?_;simp only[PT];refine tQ [4] ?_;refine aG 5 rfl (by kernel_rfl) (by kernel_rfl) rfl rfl 0 rfl (by kernel_rfl) (.bool bp) (fun w' hf=>by(have k0:=(kc _ hf).2.1;go_simp<;>with_reducible rfl)) ?_;simp only[PT];refine tQ [8] ?_;refine aG 9 rfl (by kernel_rfl) (by kernel_rfl) rfl rfl 0 rfl (by kernel_rfl) (.int .i64 q) (fun w' hf=>by(have k0:=(kc _ hf).2.2;go_simp<;>with_reducible rfl)) ?_;simp only[PT];refine fM 10 rfl (by kernel_rfl) (.int .i64 (2*q)) (by kernel_rfl) (fun w' _=>by go_simp;rw[IntKind.wrap_i64];omega) ?_;try simp only[PT]
 refine dM [0,6] (fun j hj=>?_);have hj:j=0\/j=6:=by simpa using hj
 rcases hj with rfl | rfl
 ·refine⟨⟨_,rfl,by kernel_rfl,fun K hK=>?_⟩⟩;go_simp;have O9:=QT WD;have P1:=PD.alloc (.cells #[.int .i64 8,.int .i64 1] 3);have B1:=BD.alloc BD.size (.cells #[.int .i64 8,.int .i64 1] 3);have gz:Below WD.heap.size WD (WD.alloc (.cells #[.int .i64 8,.int .i64 1] 3)):=ai.alloc ah _;skip;obtain⟨gi,LW⟩:=ae WD.heap.size;obtain⟨W1,hW1⟩:=ae (WD.alloc (.cells #[.int .i64 8,.int .i64 1] 3));rw[hW1]at O9 P1 B1 gz ⊢;rw[LW]at O9 ⊢;refine hK _ _ ⟨⟨fun _=>P1,trivial⟩,?_⟩;clear hK K hW1 LW gz;try simp only[PT]
  refine dM [1,6] (fun j hj=>?_);have hj:j=1\/j=6:=by simpa using hj
  rcases hj with rfl | rfl
  ·refine⟨⟨_,rfl,by kernel_rfl,fun K hK=>?_⟩⟩;go_simp;refine(n6 (some ⟨gi,0,none⟩) 2 2 W1).mono ?_;rintro e w8 ⟨rfl,rfl⟩;have Nw:Boxed (W1.alloc (.cells #[.slice (some ⟨gi,0,none⟩) 2 2] 49)) W1.heap.size 49 (.slice (some ⟨gi,0,none⟩) 2 2):=Boxed.new _ _ _;have P2:=P1.alloc (.cells #[.slice (some ⟨gi,0,none⟩) 2 2] 49);have B2:=B1.alloc B1.size (.cells #[.slice (some ⟨gi,0,none⟩) 2 2] 49);have bz:Below W1.heap.size W1 (W1.alloc (.cells #[.slice (some ⟨gi,0,none⟩) 2 2] 49)):=ai.alloc ah _;obtain⟨gx,hgx⟩:=ae W1.heap.size;obtain⟨W2,hW2⟩:=ae (W1.alloc (.cells #[.slice (some ⟨gi,0,none⟩) 2 2] 49));have yU:=O9.ag bz;rw[hW2]at Nw P2 B2 yU bz ⊢;rw[hgx]at Nw ⊢;refine hK _ _ ⟨⟨fun _=>P2,trivial⟩,?_⟩;clear hK K hW2 hgx bz;try simp only[PT]
   refine sQ 6 fun K hK=>?_;simp only[GO];go_simp;have yV:=LU bu bp W2;have P3:=P2.alloc (.cells #[.bool bu,.bool bp] 4);have B3:=B2.alloc B2.size (.cells #[.bool bu,.bool bp] 4);obtain⟨gb,hgb⟩:=ae W2.heap.size;obtain⟨W3,hW3⟩:=ae (W2.alloc (.cells #[.bool bu,.bool bp] 4));have bz:Below W2.heap.size W2 (W2.alloc (.cells #[.bool bu,.bool bp] 4)):=ai.alloc ah _;have A5:=yU.ag bz;have wU:=aF Nw bz;rw[hW3]at yV P3 B3 A5 wU ⊢;rw[hgb]at yV ⊢;refine hK _ _ ⟨⟨fun _=>P3,trivial⟩,?_⟩;clear hK K hW3 hgb;try simp only[PT]
   refine sQ 7 fun K hK=>?_;simp only[GO];go_simp;refine(lH [8,1] [bu,bp] _ 2 _ _ 2 _ _ W3 wU A5 yV ah (by decide) (by decide)).mono ?_;rintro e w9 ⟨rfl,rfl⟩;refine hK _ _ ⟨⟨fun _=>P3,trivial⟩,?_⟩;clear hK K;rw[hsm];try simp only[PT]
   refine fM 11 rfl (by kernel_rfl) (.int .i64 (sm+2*q)) (by kernel_rfl) (fun w' _=>by go_simp;rw[IntKind.wrap_i64];omega) ?_;try simp only[PT]
   refine tQ [12] ?_;refine dQ (aL.out _ _ ?_);clear aL KQ;go_wp2_with fail;go_ret;exact⟨by rw[gj.out];rfl,B3⟩
  refine⟨⟨_,rfl,by kernel_rfl,fun K hK=>?_⟩⟩;go_simp;have IX:=LU bu bp W1;have P2:=P1.alloc (.cells #[.bool bu,.bool bp] 4);have B2:=B1.alloc B1.size (.cells #[.bool bu,.bool bp] 4);obtain⟨gb,hgb⟩:=ae W1.heap.size;obtain⟨W2,hW2⟩:=ae (W1.alloc (.cells #[.bool bu,.bool bp] 4));have bz:Below W1.heap.size W1 (W1.alloc (.cells #[.bool bu,.bool bp] 4)):=ai.alloc ah _;have yU:=O9.ag bz;rw[hW2]at IX P2 B2 yU ⊢;rw[hgb]at IX ⊢;refine hK _ _ ⟨⟨fun _=>P2,trivial⟩,?_⟩;clear hK K hW2 hgb;try simp only[PT]
  refine sQ 1 fun K hK=>?_;simp only[GO];go_simp;refine(n6 (some ⟨gi,0,none⟩) 2 2 W2).mono ?_;rintro e w8 ⟨rfl,rfl⟩;have wU:Boxed (W2.alloc (.cells #[.slice (some ⟨gi,0,none⟩) 2 2] 49)) W2.heap.size 49 (.slice (some ⟨gi,0,none⟩) 2 2):=Boxed.new _ _ _;have P3:=P2.alloc (.cells #[.slice (some ⟨gi,0,none⟩) 2 2] 49);have B3:=B2.alloc B2.size (.cells #[.slice (some ⟨gi,0,none⟩) 2 2] 49);have bz:Below W2.heap.size W2 (W2.alloc (.cells #[.slice (some ⟨gi,0,none⟩) 2 2] 49)):=ai.alloc ah _;obtain⟨gx,hgx⟩:=ae W2.heap.size;obtain⟨W3,hW3⟩:=ae (W2.alloc (.cells #[.slice (some ⟨gi,0,none⟩) 2 2] 49));have A5:=yU.ag bz;have yV:=IX.ag bz;rw[hW3]at wU P3 B3 A5 yV bz ⊢;rw[hgx]at wU ⊢;refine hK _ _ ⟨⟨fun _=>P3,trivial⟩,?_⟩;clear hK K hW3 hgx bz;try simp only[PT]
  refine sQ 7 fun K hK=>?_;simp only[GO];go_simp;refine(lH [8,1] [bu,bp] _ 2 _ _ 2 _ _ W3 wU A5 yV ah (by decide) (by decide)).mono ?_;rintro e w9 ⟨rfl,rfl⟩;refine hK _ _ ⟨⟨fun _=>P3,trivial⟩,?_⟩;clear hK K;rw[hsm];try simp only[PT]
  refine fM 11 rfl (by kernel_rfl) (.int .i64 (sm+2*q)) (by kernel_rfl) (fun w' _=>by go_simp;rw[IntKind.wrap_i64];omega) ?_;try simp only[PT]
  refine tQ [12] ?_;refine dQ (aL.out _ _ ?_);clear aL KQ;go_wp2_with fail;go_ret;exact⟨by rw[gj.out];rfl,B3⟩
 refine⟨⟨_,rfl,by kernel_rfl,fun K hK=>?_⟩⟩;go_simp;have TG:=LU bu bp WD;have P1:=PD.alloc (.cells #[.bool bu,.bool bp] 4);have B1:=BD.alloc BD.size (.cells #[.bool bu,.bool bp] 4);obtain⟨gb,hgb⟩:=ae WD.heap.size;obtain⟨W1,hW1⟩:=ae (WD.alloc (.cells #[.bool bu,.bool bp] 4));skip;rw[hW1]at TG P1 B1 ⊢;rw[hgb]at TG ⊢;refine hK _ _ ⟨⟨fun _=>P1,trivial⟩,?_⟩;clear hK K hW1 hgb;try simp only[PT]
 refine sQ 0 fun K hK=>?_;simp only[GO];go_simp;have yU:=QT W1;have P2:=P1.alloc (.cells #[.int .i64 8,.int .i64 1] 3);have B2:=B1.alloc B1.size (.cells #[.int .i64 8,.int .i64 1] 3);have gz:Below W1.heap.size W1 (W1.alloc (.cells #[.int .i64 8,.int .i64 1] 3)):=ai.alloc ah _;have IX:=TG.ag gz;obtain⟨gi,LW⟩:=ae W1.heap.size;obtain⟨W2,hW2⟩:=ae (W1.alloc (.cells #[.int .i64 8,.int .i64 1] 3));rw[hW2]at yU P2 B2 gz IX ⊢;rw[LW]at yU ⊢;refine hK _ _ ⟨⟨fun _=>P2,trivial⟩,?_⟩;clear hK K hW2 LW gz;try simp only[PT]
 refine sQ 1 fun K hK=>?_;simp only[GO];go_simp;refine(n6 (some ⟨gi,0,none⟩) 2 2 W2).mono ?_;rintro e w8 ⟨rfl,rfl⟩;have wU:Boxed (W2.alloc (.cells #[.slice (some ⟨gi,0,none⟩) 2 2] 49)) W2.heap.size 49 (.slice (some ⟨gi,0,none⟩) 2 2):=Boxed.new _ _ _;have P3:=P2.alloc (.cells #[.slice (some ⟨gi,0,none⟩) 2 2] 49);have B3:=B2.alloc B2.size (.cells #[.slice (some ⟨gi,0,none⟩) 2 2] 49);have bz:Below W2.heap.size W2 (W2.alloc (.cells #[.slice (some ⟨gi,0,none⟩) 2 2] 49)):=ai.alloc ah _;obtain⟨gx,hgx⟩:=ae W2.heap.size;obtain⟨W3,hW3⟩:=ae (W2.alloc (.cells #[.slice (some ⟨gi,0,none⟩) 2 2] 49));have A5:=yU.ag bz;have yV:=IX.ag bz;rw[hW3]at wU P3 B3 A5 yV bz ⊢;rw[hgx]at wU ⊢;refine hK _ _ ⟨⟨fun _=>P3,trivial⟩,?_⟩;clear hK K hW3 hgx bz;try simp only[PT]
 refine sQ 7 fun K hK=>?_;simp only[GO];go_simp;refine(lH [8,1] [bu,bp] _ 2 _ _ 2 _ _ W3 wU A5 yV ah (by decide) (by decide)).mono ?_;rintro e w9 ⟨rfl,rfl⟩;refine hK _ _ ⟨⟨fun _=>P3,trivial⟩,?_⟩;clear hK K;rw[hsm];try simp only[PT]
 refine fM 11 rfl (by kernel_rfl) (.int .i64 (sm+2*q)) (by kernel_rfl) (fun w' _=>by go_simp;rw[IntKind.wrap_i64];omega) ?_;try simp only[PT]
 refine tQ [12] ?_;refine dQ (aL.out _ _ ?_);clear aL KQ;go_wp2_with fail;go_ret;exact⟨by rw[gj.out];rfl,B3⟩
end
section
theorem dh{P:Prop}(h:P:=by
 go_wp2_with (first
  | (refine wL 52 rfl rfl HZ.o underlying52 ?_)
  | (refine wS 52 24 rfl (w.heap.size+1) _ _ rfl rfl HZ.res rfl rfl aV.out ?_;intro w9 cC dN))
 refine bodyPost_ret (aJ results113 rfl (aj cC 52 underlying52 rfl (by kernel_rfl))) rfl ⟨?_,HZ.ag.trans (dN.ag HZ.ag.size (by simp))⟩;rw[iK.out]):P:=h
attribute [local go_sem] Oper.semAt_some
structure tU (w:World)(pc oc:Array Value)(W:World):Prop where
 ag:Below w.heap.size w W
 pack:ar W w.heap.size pc 52
 res:ar W (w.heap.size+1) bF 52
 o:ar W (w.heap.size+2) oc 52
theorem tU.put{w:World}{pc oc oc':Array Value}{W W':World}(h:tU w pc oc W)(ho:ar W' (w.heap.size+2) oc' 52)(hw:ak [w.heap.size+2] W W'):tU w pc oc' W':=
 ⟨h.ag.trans (hw.ag h.ag.size (by simp)),h.pack.aw hw (by simp),h.res.aw hw (by simp),ho⟩
theorem tU.drew{w:World}{pc oc:Array Value}{W:World}(h:tU w pc oc W):tU w pc oc W.drew:=⟨h.ag.drew,h.pack,h.res,h.o⟩
theorem fE(k:Int)(W:World):(Instr.build 52 #[(0,.int .i64 k)]).run prog W=.ok (.agg ((aN k).cells bo).toArray) W:=by kernel_rfl
def cW(p:Pk)(h:H3):H3:=⟨if p.kind=8 then h.w else bQ,if p.kind=9 then h.c else bQ,if p.kind=10 then h.f else bQ⟩
theorem tU.start(w:World)(pc:Array Value)(k:Int)(W:World)(hw:ak [w.heap.size+2] (((w.alloc (.cells pc 52)).alloc (.cells bF 52)).alloc (.cells bF 52)) W)(hb:ar W (w.heap.size+2) ((aN k).cells bo).toArray 52):tU w pc ((aN k).cells bo).toArray W:=by
 have b1:Below w.heap.size w (((w.alloc (.cells pc 52)).alloc (.cells bF 52)).alloc (.cells bF 52)):=((ai.alloc ah _).alloc (by simp) _).alloc (by simp;omega) _;have h1:ar (((w.alloc (.cells pc 52)).alloc (.cells bF 52)).alloc (.cells bF 52)) w.heap.size pc 52:=((ar.new _ _ _).alloc _).alloc _;have h2:ar (((w.alloc (.cells pc 52)).alloc (.cells bF 52)).alloc (.cells bF 52)) (w.heap.size+1) bF 52:=by have:=(ar.new (w.alloc (.cells pc 52)) bF 52).alloc (.cells bF 52);simpa using this
 exact⟨b1.trans (hw.ag b1.size (by simp)),h1.aw hw (by simp),h2.aw hw (by simp),hb⟩
theorem Ea(p:Pk)(h:H3)(w:World)(hk:p.kind=1):Calls prog 113 #[.agg (p.cells h).toArray] w fun e w'=>e=.returned (.agg ((aQ p).cells (cW p h)).toArray)/\Below w.heap.size w w':=by
 have iK:Hid (((aQ p).cells (cW p h)).toArray=(({aN 1 with client:=p.client,clean:=p.clean,keep:=p.keep,hasWill:=p.hasWill,will:=p.will,hasUser:=p.hasUser,hasPass:=p.hasPass,user:=p.user,pass:=p.pass}:Pk).cells bo).toArray):=af (by unfold aQ cW;rw[hk];rfl);have aV:=af (Pk.one ({aN 1 with client:=p.client,clean:=p.clean,keep:=p.keep,hasWill:=p.hasWill,will:=p.will,hasUser:=p.hasUser,hasPass:=p.hasPass,user:=p.user,pass:=p.pass}:Pk) bo);obtain⟨pc,bt⟩:=ae ((p.cells h).toArray);have B2:ar (((w.alloc (.cells pc 52)).alloc (.cells bF 52)).alloc (.cells bF 52)) (w.heap.size+2) bF 52:=by have:=ar.new ((w.alloc (.cells pc 52)).alloc (.cells bF 52)) bF 52;simpa using this
 have kc:Hid (∀W,ar W w.heap.size pc 52->W.cell? ⟨w.heap.size,0,none⟩=some (.int .i64 1)):=af fun W hb=>by rw[hb.cell,<-bt,<-hk];rfl
 have k0:∀o,((w.alloc (.cells pc 52)).alloc o).cell? ⟨w.heap.size,0,none⟩=some (.int .i64 1):=fun o=>kc.out _ ((ar.new _ _ _).alloc _);have jT:=af (Pk.one (aN 1) bo);have c7:Hid (∀W,ar W w.heap.size pc 52->W.cell? ⟨w.heap.size,7,none⟩=some (.string ⟨p.client.toArray⟩)):=af fun W hb=>by rw[hb.cell,<-bt];rfl
 have c8:Hid (∀W,ar W w.heap.size pc 52->W.cell? ⟨w.heap.size,8,none⟩=some (.bool p.clean)):=af fun W hb=>by rw[hb.cell,<-bt];rfl
 have c9:Hid (∀W,ar W w.heap.size pc 52->W.cell? ⟨w.heap.size,9,none⟩=some (.int .i64 p.keep)):=af fun W hb=>by rw[hb.cell,<-bt];rfl
 have c10:Hid (∀W,ar W w.heap.size pc 52->W.cell? ⟨w.heap.size,10,none⟩=some (.bool p.hasWill)):=af fun W hb=>by rw[hb.cell,<-bt];rfl
 have mw:Hid (∀W,ar W w.heap.size pc 52->W.rangeAt w.heap.size 11 [.string ⟨p.will.topic.toArray⟩,.string ⟨p.will.body.toArray⟩,.int .i64 p.will.qos,.bool p.will.retain]):=af fun W hb=>hb.mid ((p.cells h).take 11) [.string ⟨p.will.topic.toArray⟩,.string ⟨p.will.body.toArray⟩,.int .i64 p.will.qos,.bool p.will.retain] ((p.cells h).drop 15) (by rw[<-bt];rfl);have c15:Hid (∀W,ar W w.heap.size pc 52->W.cell? ⟨w.heap.size,15,none⟩=some (.bool p.hasUser)):=af fun W hb=>by rw[hb.cell,<-bt];rfl
 have c16:Hid (∀W,ar W w.heap.size pc 52->W.cell? ⟨w.heap.size,16,none⟩=some (.bool p.hasPass)):=af fun W hb=>by rw[hb.cell,<-bt];rfl
 have c17:Hid (∀W,ar W w.heap.size pc 52->W.cell? ⟨w.heap.size,17,none⟩=some (.string ⟨p.user.toArray⟩)):=af fun W hb=>by rw[hb.cell,<-bt];rfl
 have c18:Hid (∀W,ar W w.heap.size pc 52->W.cell? ⟨w.heap.size,18,none⟩=some (.string ⟨p.pass.toArray⟩)):=af fun W hb=>by rw[hb.cell,<-bt];rfl
 rw[bt];clear bt;unfold bF at B2;go_enter func113,ntmps113;go_upto_region 4 with(first
   | (refine iH 52 rfl #[(0,.int .i64 _)] rfl _ (fE _) ?_)
   | (refine wS 52 24 rfl (w.heap.size+2) _ _ rfl rfl B2 rfl rfl jT.out ?_;intro w2 hw2 hr2;have HA:=tU.start w pc _ w2 hr2 hw2;have k2:=kc _ HA.pack;clear B2 k0 hr2))
 have HD:=HA.drew;clear HA hw2 k2;refine aH [(1000,fun w'=>ar w' w.heap.size pc 52)] (by kernel_rfl) ⟨HD.pack,trivial⟩ fun KQ aL=>?_;try simp only[PT]
 obtain⟨WD,di⟩:=ae w2.drew;rw[di]at HD ⊢;clear di;refine tQ [0] ?_;refine aG 1 rfl (by kernel_rfl) (by kernel_rfl) rfl rfl 0 rfl (by kernel_rfl) (.string ⟨p.client.toArray⟩) (fun w' hf=>by(have k0:=c7 _ hf;go_simp<;>with_reducible rfl)) ?_;simp only[PT];refine tQ [2] ?_;refine aG 3 rfl (by kernel_rfl) (by kernel_rfl) rfl rfl 0 rfl (by kernel_rfl) (.bool p.clean) (fun w' hf=>by(have k0:=c8 _ hf;go_simp<;>with_reducible rfl)) ?_;simp only[PT];refine tQ [4] ?_;refine aG 5 rfl (by kernel_rfl) (by kernel_rfl) rfl rfl 0 rfl (by kernel_rfl) (.int .i64 p.keep) (fun w' hf=>by(have k0:=c9 _ hf;go_simp<;>with_reducible rfl)) ?_;simp only[PT];refine tQ [6] ?_;refine aG 7 rfl (by kernel_rfl) (by kernel_rfl) rfl rfl 0 rfl (by kernel_rfl) (.bool p.hasWill) (fun w' hf=>by(have k0:=c10 _ hf;go_simp<;>with_reducible rfl)) ?_;simp only[PT];refine tQ [8] ?_;refine lR 9 0 rfl rfl rfl rfl (v:=.agg ([.string ⟨p.will.topic.toArray⟩,.string ⟨p.will.body.toArray⟩,.int .i64 p.will.qos,.bool p.will.retain]:List Value).toArray) (fun w' hf=>run_loadAt_mid w' _ _ 47 ([.string ⟨p.will.topic.toArray⟩,.string ⟨p.will.body.toArray⟩,.int .i64 p.will.qos,.bool p.will.retain]:List Value) _ (mw _ hf) underlying47 rfl (by kernel_rfl)) ?_;try simp only[PT]
 refine tQ [10] ?_;refine aG 11 rfl (by kernel_rfl) (by kernel_rfl) rfl rfl 0 rfl (by kernel_rfl) (.bool p.hasUser) (fun w' hf=>by(have k0:=c15 _ hf;go_simp<;>with_reducible rfl)) ?_;simp only[PT];refine tQ [12] ?_;refine aG 13 rfl (by kernel_rfl) (by kernel_rfl) rfl rfl 0 rfl (by kernel_rfl) (.bool p.hasPass) (fun w' hf=>by(have k0:=c16 _ hf;go_simp<;>with_reducible rfl)) ?_;simp only[PT];refine tQ [14] ?_;refine aG 15 rfl (by kernel_rfl) (by kernel_rfl) rfl rfl 0 rfl (by kernel_rfl) (.string ⟨p.user.toArray⟩) (fun w' hf=>by(have k0:=c17 _ hf;go_simp<;>with_reducible rfl)) ?_;simp only[PT];refine tQ [16] ?_;refine aG 17 rfl (by kernel_rfl) (by kernel_rfl) rfl rfl 0 rfl (by kernel_rfl) (.string ⟨p.pass.toArray⟩) (fun w' hf=>by(have k0:=c18 _ hf;go_simp<;>with_reducible rfl)) ?_;simp only[PT];refine tQ [18] ?_;refine sQ 19 fun K hK=>?_;simp only[GO];refine aC 9 52 _ _ rfl (fun w=>by kernel_rfl) (w.heap.size+2) 7 _ _ rfl rfl HD.o (by exact(by decide:7<24)) rfl rfl ?_;intro wx0 ho hw;have H0:=HD.put ho hw;clear ho hw;refine hK _ _ ⟨⟨fun _=>H0.pack,trivial⟩,?_⟩;clear hK K;try simp only[PT]
 refine tQ [20] ?_;refine sQ 21 fun K hK=>?_;simp only[GO];refine aC 4 52 _ _ rfl (fun w=>by kernel_rfl) (w.heap.size+2) 8 _ _ rfl rfl H0.o (by exact(by decide:8<24)) rfl rfl ?_;intro wx1 ho hw;have H1:=H0.put ho hw;clear ho hw;refine hK _ _ ⟨⟨fun _=>H1.pack,trivial⟩,?_⟩;clear hK K;try simp only[PT]
 refine tQ [22] ?_;refine sQ 23 fun K hK=>?_;simp only[GO];refine aC 2 52 _ _ rfl (fun w=>by kernel_rfl) (w.heap.size+2) 9 _ _ rfl rfl H1.o (by exact(by decide:9<24)) rfl rfl ?_;intro wx2 ho hw;have H2:=H1.put ho hw;clear ho hw;refine hK _ _ ⟨⟨fun _=>H2.pack,trivial⟩,?_⟩;clear hK K;try simp only[PT]
 refine tQ [24] ?_;refine sQ 25 fun K hK=>?_;simp only[GO];refine aC 4 52 _ _ rfl (fun w=>by kernel_rfl) (w.heap.size+2) 10 _ _ rfl rfl H2.o (by exact(by decide:10<24)) rfl rfl ?_;intro wx3 ho hw;have H3:=H2.put ho hw;clear ho hw;refine hK _ _ ⟨⟨fun _=>H3.pack,trivial⟩,?_⟩;clear hK K;try simp only[PT]
 refine tQ [26] ?_;refine sQ 27 fun K hK=>?_;simp only[GO];refine wp_store_mid 47 52 _ _ rfl 4 (fun w=>by kernel_rfl) (w.heap.size+2) 11 _ ([.string ⟨p.will.topic.toArray⟩,.string ⟨p.will.body.toArray⟩,.int .i64 p.will.qos,.bool p.will.retain]:List Value).toArray rfl rfl H3.o rfl (by exact(by decide:11+4<=24)) (by simp[Value.oneCell']) ?_;intro wx4 ho hw;have H4:=H3.put ho hw;clear ho hw;refine hK _ _ ⟨⟨fun _=>H4.pack,trivial⟩,?_⟩;clear hK K;try simp only[PT]
 refine tQ [28] ?_;refine sQ 29 fun K hK=>?_;simp only[GO];refine aC 4 52 _ _ rfl (fun w=>by kernel_rfl) (w.heap.size+2) 15 _ _ rfl rfl H4.o (by exact(by decide:15<24)) rfl rfl ?_;intro wx5 ho hw;have H5:=H4.put ho hw;clear ho hw;refine hK _ _ ⟨⟨fun _=>H5.pack,trivial⟩,?_⟩;clear hK K;try simp only[PT]
 refine tQ [30] ?_;refine sQ 31 fun K hK=>?_;simp only[GO];refine aC 4 52 _ _ rfl (fun w=>by kernel_rfl) (w.heap.size+2) 16 _ _ rfl rfl H5.o (by exact(by decide:16<24)) rfl rfl ?_;intro wx6 ho hw;have H6:=H5.put ho hw;clear ho hw;refine hK _ _ ⟨⟨fun _=>H6.pack,trivial⟩,?_⟩;clear hK K;try simp only[PT]
 refine tQ [32] ?_;refine sQ 33 fun K hK=>?_;simp only[GO];refine aC 9 52 _ _ rfl (fun w=>by kernel_rfl) (w.heap.size+2) 17 _ _ rfl rfl H6.o (by exact(by decide:17<24)) rfl rfl ?_;intro wx7 ho hw;have H7:=H6.put ho hw;clear ho hw;refine hK _ _ ⟨⟨fun _=>H7.pack,trivial⟩,?_⟩;clear hK K;try simp only[PT]
 refine tQ [34] ?_;refine sQ 35 fun K hK=>?_;simp only[GO];refine aC 9 52 _ _ rfl (fun w=>by kernel_rfl) (w.heap.size+2) 18 _ _ rfl rfl H7.o (by exact(by decide:18<24)) rfl rfl ?_;intro wx8 ho hw;have H8:=H7.put ho hw;clear ho hw;refine hK _ _ ⟨⟨fun _=>H8.pack,trivial⟩,?_⟩;clear hK K;try simp only[PT]
 refine dQ (aL.out _ _ ?_);clear aL KQ;have HZ:tU w pc (({aN 1 with client:=p.client,clean:=p.clean,keep:=p.keep,hasWill:=p.hasWill,will:=p.will,hasUser:=p.hasUser,hasPass:=p.hasPass,user:=p.user,pass:=p.pass}:Pk).cells bo).toArray wx8:=H8;clear HD H0 H1 H2 H3 H4 H5 H6 H7 H8;exact dh
theorem Eb(p:Pk)(h:H3)(w:World)(hk:p.kind=2):Calls prog 113 #[.agg (p.cells h).toArray] w fun e w'=>e=.returned (.agg ((aQ p).cells (cW p h)).toArray)/\Below w.heap.size w w':=by
 have iK:Hid (((aQ p).cells (cW p h)).toArray=(({aN 2 with present:=p.present,code:=p.code}:Pk).cells bo).toArray):=af (by unfold aQ cW;rw[hk];rfl);have aV:=af (Pk.one ({aN 2 with present:=p.present,code:=p.code}:Pk) bo);obtain⟨pc,bt⟩:=ae ((p.cells h).toArray);have B2:ar (((w.alloc (.cells pc 52)).alloc (.cells bF 52)).alloc (.cells bF 52)) (w.heap.size+2) bF 52:=by have:=ar.new ((w.alloc (.cells pc 52)).alloc (.cells bF 52)) bF 52;simpa using this
 have kc:Hid (∀W,ar W w.heap.size pc 52->W.cell? ⟨w.heap.size,0,none⟩=some (.int .i64 2)):=af fun W hb=>by rw[hb.cell,<-bt,<-hk];rfl
 have k0:∀o,((w.alloc (.cells pc 52)).alloc o).cell? ⟨w.heap.size,0,none⟩=some (.int .i64 2):=fun o=>kc.out _ ((ar.new _ _ _).alloc _);have jT:=af (Pk.one (aN 2) bo);have c19:Hid (∀W,ar W w.heap.size pc 52->W.cell? ⟨w.heap.size,19,none⟩=some (.bool p.present)):=af fun W hb=>by rw[hb.cell,<-bt];rfl
 have c20:Hid (∀W,ar W w.heap.size pc 52->W.cell? ⟨w.heap.size,20,none⟩=some (.int .i64 p.code)):=af fun W hb=>by rw[hb.cell,<-bt];rfl
 rw[bt];clear bt;unfold bF at B2;go_enter func113,ntmps113;go_upto_region 6 with(first
   | (refine iH 52 rfl #[(0,.int .i64 _)] rfl _ (fE _) ?_)
   | (refine wS 52 24 rfl (w.heap.size+2) _ _ rfl rfl B2 rfl rfl jT.out ?_;intro w2 hw2 hr2;have HA:=tU.start w pc _ w2 hr2 hw2;have k2:=kc _ HA.pack;clear B2 k0 hr2))
 have HD:=HA.drew;clear HA hw2 k2;refine aH [(1000,fun w'=>ar w' w.heap.size pc 52)] (by kernel_rfl) ⟨HD.pack,trivial⟩ fun KQ aL=>?_;try simp only[PT]
 obtain⟨WD,di⟩:=ae w2.drew;rw[di]at HD ⊢;clear di;refine tQ [0] ?_;refine aG 1 rfl (by kernel_rfl) (by kernel_rfl) rfl rfl 0 rfl (by kernel_rfl) (.bool p.present) (fun w' hf=>by(have k0:=c19 _ hf;go_simp<;>with_reducible rfl)) ?_;simp only[PT];refine tQ [2] ?_;refine aG 3 rfl (by kernel_rfl) (by kernel_rfl) rfl rfl 0 rfl (by kernel_rfl) (.int .i64 p.code) (fun w' hf=>by(have k0:=c20 _ hf;go_simp<;>with_reducible rfl)) ?_;simp only[PT];refine tQ [4] ?_;refine sQ 5 fun K hK=>?_;simp only[GO];refine aC 4 52 _ _ rfl (fun w=>by kernel_rfl) (w.heap.size+2) 19 _ _ rfl rfl HD.o (by exact(by decide:19<24)) rfl rfl ?_;intro wx0 ho hw;have H0:=HD.put ho hw;clear ho hw;refine hK _ _ ⟨⟨fun _=>H0.pack,trivial⟩,?_⟩;clear hK K;try simp only[PT]
 refine tQ [6] ?_;refine sQ 7 fun K hK=>?_;simp only[GO];refine aC 3 52 _ _ rfl (fun w=>by kernel_rfl) (w.heap.size+2) 20 _ _ rfl rfl H0.o (by exact(by decide:20<24)) rfl rfl ?_;intro wx1 ho hw;have H1:=H0.put ho hw;clear ho hw;refine hK _ _ ⟨⟨fun _=>H1.pack,trivial⟩,?_⟩;clear hK K;try simp only[PT]
 refine dQ (aL.out _ _ ?_);clear aL KQ;have HZ:tU w pc (({aN 2 with present:=p.present,code:=p.code}:Pk).cells bo).toArray wx1:=H1;clear HD H0 H1;exact dh
theorem Ec(p:Pk)(h:H3)(w:World)(hk:p.kind=3):Calls prog 113 #[.agg (p.cells h).toArray] w fun e w'=>e=.returned (.agg ((aQ p).cells (cW p h)).toArray)/\Below w.heap.size w w':=by
 have iK:Hid (((aQ p).cells (cW p h)).toArray=(({aN 3 with topic:=p.topic,body:=p.body,qos:=p.qos,retain:=p.retain,dup:=p.dup,id:=p.id}:Pk).cells bo).toArray):=af (by unfold aQ cW;rw[hk];rfl);have aV:=af (Pk.one ({aN 3 with topic:=p.topic,body:=p.body,qos:=p.qos,retain:=p.retain,dup:=p.dup,id:=p.id}:Pk) bo);obtain⟨pc,bt⟩:=ae ((p.cells h).toArray);have B2:ar (((w.alloc (.cells pc 52)).alloc (.cells bF 52)).alloc (.cells bF 52)) (w.heap.size+2) bF 52:=by have:=ar.new ((w.alloc (.cells pc 52)).alloc (.cells bF 52)) bF 52;simpa using this
 have kc:Hid (∀W,ar W w.heap.size pc 52->W.cell? ⟨w.heap.size,0,none⟩=some (.int .i64 3)):=af fun W hb=>by rw[hb.cell,<-bt,<-hk];rfl
 have k0:∀o,((w.alloc (.cells pc 52)).alloc o).cell? ⟨w.heap.size,0,none⟩=some (.int .i64 3):=fun o=>kc.out _ ((ar.new _ _ _).alloc _);have jT:=af (Pk.one (aN 3) bo);have c4:Hid (∀W,ar W w.heap.size pc 52->W.cell? ⟨w.heap.size,4,none⟩=some (.string ⟨p.topic.toArray⟩)):=af fun W hb=>by rw[hb.cell,<-bt];rfl
 have c5:Hid (∀W,ar W w.heap.size pc 52->W.cell? ⟨w.heap.size,5,none⟩=some (.string ⟨p.body.toArray⟩)):=af fun W hb=>by rw[hb.cell,<-bt];rfl
 have c3:Hid (∀W,ar W w.heap.size pc 52->W.cell? ⟨w.heap.size,3,none⟩=some (.int .i64 p.qos)):=af fun W hb=>by rw[hb.cell,<-bt];rfl
 have c2:Hid (∀W,ar W w.heap.size pc 52->W.cell? ⟨w.heap.size,2,none⟩=some (.bool p.retain)):=af fun W hb=>by rw[hb.cell,<-bt];rfl
 have c1:Hid (∀W,ar W w.heap.size pc 52->W.cell? ⟨w.heap.size,1,none⟩=some (.bool p.dup)):=af fun W hb=>by rw[hb.cell,<-bt];rfl
 have c6:Hid (∀W,ar W w.heap.size pc 52->W.cell? ⟨w.heap.size,6,none⟩=some (.int .i64 p.id)):=af fun W hb=>by rw[hb.cell,<-bt];rfl
 rw[bt];clear bt;unfold bF at B2;go_enter func113,ntmps113;go_upto_region 8 with(first
   | (refine iH 52 rfl #[(0,.int .i64 _)] rfl _ (fE _) ?_)
   | (refine wS 52 24 rfl (w.heap.size+2) _ _ rfl rfl B2 rfl rfl jT.out ?_;intro w2 hw2 hr2;have HA:=tU.start w pc _ w2 hr2 hw2;have k2:=kc _ HA.pack;clear B2 k0 hr2))
 have HD:=HA.drew;clear HA hw2 k2;refine aH [(1000,fun w'=>ar w' w.heap.size pc 52)] (by kernel_rfl) ⟨HD.pack,trivial⟩ fun KQ aL=>?_;try simp only[PT]
 obtain⟨WD,di⟩:=ae w2.drew;rw[di]at HD ⊢;clear di;refine tQ [0] ?_;refine aG 1 rfl (by kernel_rfl) (by kernel_rfl) rfl rfl 0 rfl (by kernel_rfl) (.string ⟨p.topic.toArray⟩) (fun w' hf=>by(have k0:=c4 _ hf;go_simp<;>with_reducible rfl)) ?_;simp only[PT];refine tQ [2] ?_;refine aG 3 rfl (by kernel_rfl) (by kernel_rfl) rfl rfl 0 rfl (by kernel_rfl) (.string ⟨p.body.toArray⟩) (fun w' hf=>by(have k0:=c5 _ hf;go_simp<;>with_reducible rfl)) ?_;simp only[PT];refine tQ [4] ?_;refine aG 5 rfl (by kernel_rfl) (by kernel_rfl) rfl rfl 0 rfl (by kernel_rfl) (.int .i64 p.qos) (fun w' hf=>by(have k0:=c3 _ hf;go_simp<;>with_reducible rfl)) ?_;simp only[PT];refine tQ [6] ?_;refine aG 7 rfl (by kernel_rfl) (by kernel_rfl) rfl rfl 0 rfl (by kernel_rfl) (.bool p.retain) (fun w' hf=>by(have k0:=c2 _ hf;go_simp<;>with_reducible rfl)) ?_;simp only[PT];refine tQ [8] ?_;refine aG 9 rfl (by kernel_rfl) (by kernel_rfl) rfl rfl 0 rfl (by kernel_rfl) (.bool p.dup) (fun w' hf=>by(have k0:=c1 _ hf;go_simp<;>with_reducible rfl)) ?_;simp only[PT];refine tQ [10] ?_;refine aG 11 rfl (by kernel_rfl) (by kernel_rfl) rfl rfl 0 rfl (by kernel_rfl) (.int .i64 p.id) (fun w' hf=>by(have k0:=c6 _ hf;go_simp<;>with_reducible rfl)) ?_;simp only[PT];refine tQ [12] ?_;refine sQ 13 fun K hK=>?_;simp only[GO];refine aC 9 52 _ _ rfl (fun w=>by kernel_rfl) (w.heap.size+2) 4 _ _ rfl rfl HD.o (by exact(by decide:4<24)) rfl rfl ?_;intro wx0 ho hw;have H0:=HD.put ho hw
 clear ho hw;refine hK _ _ ⟨⟨fun _=>H0.pack,trivial⟩,?_⟩;clear hK K;try simp only[PT]
 refine tQ [14] ?_;refine sQ 15 fun K hK=>?_;simp only[GO];refine aC 9 52 _ _ rfl (fun w=>by kernel_rfl) (w.heap.size+2) 5 _ _ rfl rfl H0.o (by exact(by decide:5<24)) rfl rfl ?_;intro wx1 ho hw;have H1:=H0.put ho hw;clear ho hw;refine hK _ _ ⟨⟨fun _=>H1.pack,trivial⟩,?_⟩;clear hK K;try simp only[PT]
 refine tQ [16] ?_;refine sQ 17 fun K hK=>?_;simp only[GO];refine aC 3 52 _ _ rfl (fun w=>by kernel_rfl) (w.heap.size+2) 3 _ _ rfl rfl H1.o (by exact(by decide:3<24)) rfl rfl ?_;intro wx2 ho hw;have H2:=H1.put ho hw;clear ho hw;refine hK _ _ ⟨⟨fun _=>H2.pack,trivial⟩,?_⟩;clear hK K;try simp only[PT]
 refine tQ [18] ?_;refine sQ 19 fun K hK=>?_;simp only[GO];refine aC 4 52 _ _ rfl (fun w=>by kernel_rfl) (w.heap.size+2) 2 _ _ rfl rfl H2.o (by exact(by decide:2<24)) rfl rfl ?_;intro wx3 ho hw;have H3:=H2.put ho hw;clear ho hw;refine hK _ _ ⟨⟨fun _=>H3.pack,trivial⟩,?_⟩;clear hK K;try simp only[PT]
 refine tQ [20] ?_;refine sQ 21 fun K hK=>?_;simp only[GO];refine aC 4 52 _ _ rfl (fun w=>by kernel_rfl) (w.heap.size+2) 1 _ _ rfl rfl H3.o (by exact(by decide:1<24)) rfl rfl ?_;intro wx4 ho hw;have H4:=H3.put ho hw;clear ho hw;refine hK _ _ ⟨⟨fun _=>H4.pack,trivial⟩,?_⟩;clear hK K;try simp only[PT]
 refine tQ [22] ?_;refine sQ 23 fun K hK=>?_;simp only[GO];refine aC 2 52 _ _ rfl (fun w=>by kernel_rfl) (w.heap.size+2) 6 _ _ rfl rfl H4.o (by exact(by decide:6<24)) rfl rfl ?_;intro wx5 ho hw;have H5:=H4.put ho hw;clear ho hw;refine hK _ _ ⟨⟨fun _=>H5.pack,trivial⟩,?_⟩;clear hK K;try simp only[PT]
 refine dQ (aL.out _ _ ?_);clear aL KQ;have HZ:tU w pc (({aN 3 with topic:=p.topic,body:=p.body,qos:=p.qos,retain:=p.retain,dup:=p.dup,id:=p.id}:Pk).cells bo).toArray wx5:=H5;clear HD H0 H1 H2 H3 H4 H5;exact dh
theorem jU(p:Pk)(h:H3)(w:World)(k:Int)(hg:k=4\/k=5\/k=6\/k=7\/k=11)(hk:p.kind=k):Calls prog 113 #[.agg (p.cells h).toArray] w fun e w'=>e=.returned (.agg ((aQ p).cells (cW p h)).toArray)/\Below w.heap.size w w':=by
 have iK:Hid (((aQ p).cells (cW p h)).toArray=(({aN k with id:=p.id}:Pk).cells bo).toArray):=af (by unfold aQ cW;rw[hk];rcases hg with rfl | rfl | rfl | rfl | rfl<;>rfl);have aV:=af (Pk.one ({aN k with id:=p.id}:Pk) bo);obtain⟨pc,bt⟩:=ae ((p.cells h).toArray);have B2:ar (((w.alloc (.cells pc 52)).alloc (.cells bF 52)).alloc (.cells bF 52)) (w.heap.size+2) bF 52:=by have:=ar.new ((w.alloc (.cells pc 52)).alloc (.cells bF 52)) bF 52;simpa using this
 have kc:Hid (∀W,ar W w.heap.size pc 52->W.cell? ⟨w.heap.size,0,none⟩=some (.int .i64 k)):=af fun W hb=>by rw[hb.cell,<-bt,<-hk];rfl
 have k0:∀o,((w.alloc (.cells pc 52)).alloc o).cell? ⟨w.heap.size,0,none⟩=some (.int .i64 k):=fun o=>kc.out _ ((ar.new _ _ _).alloc _);have jT:=af (Pk.one (aN k) bo);have c6:Hid (∀W,ar W w.heap.size pc 52->W.cell? ⟨w.heap.size,6,none⟩=some (.int .i64 p.id)):=af fun W hb=>by rw[hb.cell,<-bt];rfl
 rw[bt];clear bt;unfold bF at B2;rcases hg with rfl | rfl | rfl | rfl | rfl
 all_goals
  go_enter func113,ntmps113;go_upto_region 17 with(first
    | (refine iH 52 rfl #[(0,.int .i64 _)] rfl _ (fE _) ?_)
    | (refine wS 52 24 rfl (w.heap.size+2) _ _ rfl rfl B2 rfl rfl jT.out ?_;intro w2 hw2 hr2;have HA:=tU.start w pc _ w2 hr2 hw2;have k2:=kc _ HA.pack;have k6:=c6 _ HA.pack;clear B2 k0 hr2)
    | (refine aq rfl 2 52 _ _ rfl (fun w=>by kernel_rfl) (w.heap.size+2) 6 _ _ rfl rfl HA.o (by exact(by decide:6<24)) rfl rfl ?_;intro w3 qJ hw3;have HB:=HA.put qJ hw3;have k3:=c6 _ HB.pack;clear HA qJ hw3 hw2))
  have HZ:tU w pc (({aN _ with id:=p.id}:Pk).cells bo).toArray w3:=HB;clear HB;exact dh
theorem Ed(p:Pk)(h:H3)(w:World)(hk:p.kind=8):Calls prog 113 #[.agg (p.cells h).toArray] w fun e w'=>e=.returned (.agg ((aQ p).cells (cW p h)).toArray)/\Below w.heap.size w w':=by
 have iK:Hid (((aQ p).cells (cW p h)).toArray=(({aN 8 with id:=p.id,wants:=p.wants}:Pk).cells ⟨h.w,bQ,bQ⟩).toArray):=af (by unfold aQ cW;rw[hk];rfl);have aV:=af (Pk.one ({aN 8 with id:=p.id,wants:=p.wants}:Pk) ⟨h.w,bQ,bQ⟩);obtain⟨pc,bt⟩:=ae ((p.cells h).toArray);have B2:ar (((w.alloc (.cells pc 52)).alloc (.cells bF 52)).alloc (.cells bF 52)) (w.heap.size+2) bF 52:=by have:=ar.new ((w.alloc (.cells pc 52)).alloc (.cells bF 52)) bF 52;simpa using this
 have kc:Hid (∀W,ar W w.heap.size pc 52->W.cell? ⟨w.heap.size,0,none⟩=some (.int .i64 8)):=af fun W hb=>by rw[hb.cell,<-bt,<-hk];rfl
 have k0:∀o,((w.alloc (.cells pc 52)).alloc o).cell? ⟨w.heap.size,0,none⟩=some (.int .i64 8):=fun o=>kc.out _ ((ar.new _ _ _).alloc _);have jT:=af (Pk.one (aN 8) bo);have c6:Hid (∀W,ar W w.heap.size pc 52->W.cell? ⟨w.heap.size,6,none⟩=some (.int .i64 p.id)):=af fun W hb=>by rw[hb.cell,<-bt];rfl
 have c21:Hid (∀W,ar W w.heap.size pc 52->W.cell? ⟨w.heap.size,21,none⟩=some (.slice h.w.a h.w.n h.w.c)):=af fun W hb=>by rw[hb.cell,<-bt];rfl
 rw[bt];clear bt;unfold bF at B2;go_enter func113,ntmps113;go_upto_region 17 with(first
   | (refine iH 52 rfl #[(0,.int .i64 _)] rfl _ (fE _) ?_)
   | (refine wS 52 24 rfl (w.heap.size+2) _ _ rfl rfl B2 rfl rfl jT.out ?_;intro w2 hw2 hr2;have HA:=tU.start w pc _ w2 hr2 hw2;have k2:=kc _ HA.pack;have k6:=c6 _ HA.pack;clear B2 k0 hr2)
   | (refine aq rfl 2 52 _ _ rfl (fun w=>by kernel_rfl) (w.heap.size+2) 6 _ _ rfl rfl HA.o (by exact(by decide:6<24)) rfl rfl ?_;intro w3 qJ hw3;have HB:=HA.put qJ hw3;have k3:=c21 _ HB.pack;clear HA qJ hw3 hw2)
   | (refine aq rfl 48 52 _ _ rfl (fun w=>by kernel_rfl) (w.heap.size+2) 21 _ _ rfl rfl HB.o (by exact(by decide:21<24)) rfl rfl ?_;intro w4 xL hw4;have HC:=HB.put xL hw4;clear HB xL hw4))
 have HZ:tU w pc (({aN _ with id:=p.id,wants:=p.wants}:Pk).cells ⟨h.w,bQ,bQ⟩).toArray w4:=HC;clear HC;exact dh
theorem Ee(p:Pk)(h:H3)(w:World)(hk:p.kind=9):Calls prog 113 #[.agg (p.cells h).toArray] w fun e w'=>e=.returned (.agg ((aQ p).cells (cW p h)).toArray)/\Below w.heap.size w w':=by
 have iK:Hid (((aQ p).cells (cW p h)).toArray=(({aN 9 with id:=p.id,codes:=p.codes}:Pk).cells ⟨bQ,h.c,bQ⟩).toArray):=af (by unfold aQ cW;rw[hk];rfl);have aV:=af (Pk.one ({aN 9 with id:=p.id,codes:=p.codes}:Pk) ⟨bQ,h.c,bQ⟩);obtain⟨pc,bt⟩:=ae ((p.cells h).toArray);have B2:ar (((w.alloc (.cells pc 52)).alloc (.cells bF 52)).alloc (.cells bF 52)) (w.heap.size+2) bF 52:=by have:=ar.new ((w.alloc (.cells pc 52)).alloc (.cells bF 52)) bF 52;simpa using this
 have kc:Hid (∀W,ar W w.heap.size pc 52->W.cell? ⟨w.heap.size,0,none⟩=some (.int .i64 9)):=af fun W hb=>by rw[hb.cell,<-bt,<-hk];rfl
 have k0:∀o,((w.alloc (.cells pc 52)).alloc o).cell? ⟨w.heap.size,0,none⟩=some (.int .i64 9):=fun o=>kc.out _ ((ar.new _ _ _).alloc _);have jT:=af (Pk.one (aN 9) bo);have c6:Hid (∀W,ar W w.heap.size pc 52->W.cell? ⟨w.heap.size,6,none⟩=some (.int .i64 p.id)):=af fun W hb=>by rw[hb.cell,<-bt];rfl
 have c22:Hid (∀W,ar W w.heap.size pc 52->W.cell? ⟨w.heap.size,22,none⟩=some (.slice h.c.a h.c.n h.c.c)):=af fun W hb=>by rw[hb.cell,<-bt];rfl
 rw[bt];clear bt;unfold bF at B2;go_enter func113,ntmps113;go_upto_region 17 with(first
   | (refine iH 52 rfl #[(0,.int .i64 _)] rfl _ (fE _) ?_)
   | (refine wS 52 24 rfl (w.heap.size+2) _ _ rfl rfl B2 rfl rfl jT.out ?_;intro w2 hw2 hr2;have HA:=tU.start w pc _ w2 hr2 hw2;have k2:=kc _ HA.pack;have k6:=c6 _ HA.pack;clear B2 k0 hr2)
   | (refine aq rfl 2 52 _ _ rfl (fun w=>by kernel_rfl) (w.heap.size+2) 6 _ _ rfl rfl HA.o (by exact(by decide:6<24)) rfl rfl ?_;intro w3 qJ hw3;have HB:=HA.put qJ hw3;have k3:=c22 _ HB.pack;clear HA qJ hw3 hw2)
   | (refine aq rfl 49 52 _ _ rfl (fun w=>by kernel_rfl) (w.heap.size+2) 22 _ _ rfl rfl HB.o (by exact(by decide:22<24)) rfl rfl ?_;intro w4 xL hw4;have HC:=HB.put xL hw4;clear HB xL hw4))
 have HZ:tU w pc (({aN _ with id:=p.id,codes:=p.codes}:Pk).cells ⟨bQ,h.c,bQ⟩).toArray w4:=HC;clear HC;exact dh
theorem A6(p:Pk)(h:H3)(w:World)(hk:p.kind=10):Calls prog 113 #[.agg (p.cells h).toArray] w fun e w'=>e=.returned (.agg ((aQ p).cells (cW p h)).toArray)/\Below w.heap.size w w':=by
 have iK:Hid (((aQ p).cells (cW p h)).toArray=(({aN 10 with id:=p.id,filters:=p.filters}:Pk).cells ⟨bQ,bQ,h.f⟩).toArray):=af (by unfold aQ cW;rw[hk];rfl);have aV:=af (Pk.one ({aN 10 with id:=p.id,filters:=p.filters}:Pk) ⟨bQ,bQ,h.f⟩);obtain⟨pc,bt⟩:=ae ((p.cells h).toArray);have B2:ar (((w.alloc (.cells pc 52)).alloc (.cells bF 52)).alloc (.cells bF 52)) (w.heap.size+2) bF 52:=by have:=ar.new ((w.alloc (.cells pc 52)).alloc (.cells bF 52)) bF 52;simpa using this
 have kc:Hid (∀W,ar W w.heap.size pc 52->W.cell? ⟨w.heap.size,0,none⟩=some (.int .i64 10)):=af fun W hb=>by rw[hb.cell,<-bt,<-hk];rfl
 have k0:∀o,((w.alloc (.cells pc 52)).alloc o).cell? ⟨w.heap.size,0,none⟩=some (.int .i64 10):=fun o=>kc.out _ ((ar.new _ _ _).alloc _);have jT:=af (Pk.one (aN 10) bo);have c6:Hid (∀W,ar W w.heap.size pc 52->W.cell? ⟨w.heap.size,6,none⟩=some (.int .i64 p.id)):=af fun W hb=>by rw[hb.cell,<-bt];rfl
 have c23:Hid (∀W,ar W w.heap.size pc 52->W.cell? ⟨w.heap.size,23,none⟩=some (.slice h.f.a h.f.n h.f.c)):=af fun W hb=>by rw[hb.cell,<-bt];rfl
 rw[bt];clear bt;unfold bF at B2;go_enter func113,ntmps113;go_upto_region 17 with(first
   | (refine iH 52 rfl #[(0,.int .i64 _)] rfl _ (fE _) ?_)
   | (refine wS 52 24 rfl (w.heap.size+2) _ _ rfl rfl B2 rfl rfl jT.out ?_;intro w2 hw2 hr2;have HA:=tU.start w pc _ w2 hr2 hw2;have k2:=kc _ HA.pack;have k6:=c6 _ HA.pack;clear B2 k0 hr2)
   | (refine aq rfl 2 52 _ _ rfl (fun w=>by kernel_rfl) (w.heap.size+2) 6 _ _ rfl rfl HA.o (by exact(by decide:6<24)) rfl rfl ?_;intro w3 qJ hw3;have HB:=HA.put qJ hw3;have k3:=c23 _ HB.pack;clear HA qJ hw3 hw2)
   | (refine aq rfl 50 52 _ _ rfl (fun w=>by kernel_rfl) (w.heap.size+2) 23 _ _ rfl rfl HB.o (by exact(by decide:23<24)) rfl rfl ?_;intro w4 xL hw4;have HC:=HB.put xL hw4;clear HB xL hw4))
 have HZ:tU w pc (({aN _ with id:=p.id,filters:=p.filters}:Pk).cells ⟨bQ,bQ,h.f⟩).toArray w4:=HC;clear HC;exact dh
theorem nE(p:Pk)(h:H3)(w:World)(k:Int)(hg:k=12\/k=13\/k=14)(hk:p.kind=k):Calls prog 113 #[.agg (p.cells h).toArray] w fun e w'=>e=.returned (.agg ((aQ p).cells (cW p h)).toArray)/\Below w.heap.size w w':=by
 have iK:Hid (((aQ p).cells (cW p h)).toArray=((aN k).cells bo).toArray):=af (by unfold aQ cW;rw[hk];rcases hg with rfl | rfl | rfl<;>rfl);have aV:=af (Pk.one (aN k) bo);obtain⟨pc,bt⟩:=ae ((p.cells h).toArray);have B2:ar (((w.alloc (.cells pc 52)).alloc (.cells bF 52)).alloc (.cells bF 52)) (w.heap.size+2) bF 52:=by have:=ar.new ((w.alloc (.cells pc 52)).alloc (.cells bF 52)) bF 52;simpa using this
 have kc:Hid (∀W,ar W w.heap.size pc 52->W.cell? ⟨w.heap.size,0,none⟩=some (.int .i64 k)):=af fun W hb=>by rw[hb.cell,<-bt,<-hk];rfl
 have k0:∀o,((w.alloc (.cells pc 52)).alloc o).cell? ⟨w.heap.size,0,none⟩=some (.int .i64 k):=fun o=>kc.out _ ((ar.new _ _ _).alloc _);have jT:=af (Pk.one (aN k) bo);rw[bt];clear bt;unfold bF at B2;rcases hg with rfl | rfl | rfl
 all_goals
  go_enter func113,ntmps113;go_upto_region 17 with(first
    | (refine iH 52 rfl #[(0,.int .i64 _)] rfl _ (fE _) ?_)
    | (refine wS 52 24 rfl (w.heap.size+2) _ _ rfl rfl B2 rfl rfl jT.out ?_;intro w2 hw2 hr2;have HA:=tU.start w pc _ w2 hr2 hw2;have k2:=kc _ HA.pack;clear B2 k0 hr2))
  have HZ:tU w pc ((aN _).cells bo).toArray w2:=HA;clear HA;exact dh
theorem IY(p:Pk)(h:H3)(w:World)(hk:1<=p.kind/\p.kind<=14):Calls prog 113 #[.agg (p.cells h).toArray] w fun e w'=>e=.returned (.agg ((aQ p).cells (cW p h)).toArray)/\Below w.heap.size w w':=by
 have:p.kind=1\/p.kind=2\/p.kind=3\/p.kind=4\/p.kind=5\/p.kind=6\/p.kind=7\/p.kind=8\/p.kind=9\/p.kind=10\/p.kind=11\/p.kind=12\/p.kind=13\/p.kind=14:=by omega
 rcases this with hk | hk | hk | hk | hk | hk | hk | hk | hk | hk | hk | hk | hk | hk
 ·exact Ea p h w hk
 ·exact Eb p h w hk
 ·exact Ec p h w hk
 ·exact jU p h w 4 (by omega) hk
 ·exact jU p h w 5 (by omega) hk
 ·exact jU p h w 6 (by omega) hk
 ·exact jU p h w 7 (by omega) hk
 ·exact Ed p h w hk
 ·exact Ee p h w hk
 ·exact A6 p h w hk
 ·exact jU p h w 11 (by omega) hk
 ·exact nE p h w 12 (by omega) hk
 ·exact nE p h w 13 (by omega) hk
 exact nE p h w 14 (by omega) hk
end
end Go.Proofs.YtkghejaimhoboaaGreatDoor
