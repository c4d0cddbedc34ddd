/- Parts of the proof of ScriptRaws. -/
import Derived.Test.YtkghejaimhoboaaGreatDoorPr18
set_option linter.unusedSimpArgs false
set_option linter.unusedVariables false
set_option maxRecDepth 100000
set_option maxHeartbeats 8000000
namespace Go.Proofs.YtkghejaimhoboaaGreatDoor
open Go.RowKit Go.Shelf Go.Proofs.Tryz
section
attribute [local go_sem] Oper.semAt_some
def plainV(p:Pk):Array Value:=#[.int .i64 p.kind,.bool p.dup,.bool p.retain,.bool p.clean,.bool p.hasWill,.bool p.hasUser,.bool p.hasPass,.bool p.present,.int .i64 p.qos,.int .i64 p.code,.int .i64 p.id,.int .i64 p.keep,.string ⟨(p.topic).toArray⟩,.string ⟨(p.body).toArray⟩,.string ⟨(p.client).toArray⟩,.string ⟨(p.user).toArray⟩,.string ⟨(p.pass).toArray⟩,.string ⟨(p.will.topic).toArray⟩,.string ⟨(p.will.body).toArray⟩,.int .i64 p.will.qos,.bool p.will.retain]
theorem plain_eql (a0 b0:Int) (a1 b1:Bool) (a2 b2:Bool) (a3 b3:Bool) (a4 b4:Bool) (a5 b5:Bool) (a6 b6:Bool) (a7 b7:Bool) (a8 b8:Int) (a9 b9:Int) (a10 b10:Int) (a11 b11:Int) (a12 b12:List UInt8) (a13 b13:List UInt8) (a14 b14:List UInt8) (a15 b15:List UInt8) (a16 b16:List UInt8) (a17 b17:List UInt8) (a18 b18:List UInt8) (a19 b19:Int) (a20 b20:Bool) (W:World):(binOp .eql 174 (.agg #[.int .i64 a0,.bool a1,.bool a2,.bool a3,.bool a4,.bool a5,.bool a6,.bool a7,.int .i64 a8,.int .i64 a9,.int .i64 a10,.int .i64 a11,.string ⟨(a12).toArray⟩,.string ⟨(a13).toArray⟩,.string ⟨(a14).toArray⟩,.string ⟨(a15).toArray⟩,.string ⟨(a16).toArray⟩,.string ⟨(a17).toArray⟩,.string ⟨(a18).toArray⟩,.int .i64 a19,.bool a20]) (.agg #[.int .i64 b0,.bool b1,.bool b2,.bool b3,.bool b4,.bool b5,.bool b6,.bool b7,.int .i64 b8,.int .i64 b9,.int .i64 b10,.int .i64 b11,.string ⟨(b12).toArray⟩,.string ⟨(b13).toArray⟩,.string ⟨(b14).toArray⟩,.string ⟨(b15).toArray⟩,.string ⟨(b16).toArray⟩,.string ⟨(b17).toArray⟩,.string ⟨(b18).toArray⟩,.int .i64 b19,.bool b20])).run prog W=.ok (.bool (decide (a0=b0)&&decide (a1=b1)&&decide (a2=b2)&&decide (a3=b3)&&decide (a4=b4)&&decide (a5=b5)&&decide (a6=b6)&&decide (a7=b7)&&decide (a8=b8)&&decide (a9=b9)&&decide (a10=b10)&&decide (a11=b11)&&decide (a12=b12)&&decide (a13=b13)&&decide (a14=b14)&&decide (a15=b15)&&decide (a16=b16)&&decide (a17=b17)&&decide (a18=b18)&&decide (a19=b19)&&decide (a20=b20))) W:=by
 go_simp;by_cases h0:a0=b0
 ·subst h0;by_cases h1:a1=b1
  ·subst h1;by_cases h2:a2=b2
   ·subst h2;by_cases h3:a3=b3
    ·subst h3;by_cases h4:a4=b4
     ·subst h4;by_cases h5:a5=b5
      ·subst h5;by_cases h6:a6=b6
       ·subst h6;by_cases h7:a7=b7
        ·subst h7;by_cases h8:a8=b8
         ·subst h8;by_cases h9:a9=b9
          ·subst h9;by_cases h10:a10=b10
           ·subst h10;by_cases h11:a11=b11
            ·subst h11;by_cases h12:a12=b12
             ·subst h12;by_cases h13:a13=b13
              ·subst h13;by_cases h14:a14=b14
               ·subst h14;by_cases h15:a15=b15
                ·subst h15;by_cases h16:a16=b16
                 ·subst h16;by_cases h17:a17=b17
                  ·subst h17;by_cases h18:a18=b18
                   ·subst h18;by_cases h19:a19=b19
                    ·subst h19;by_cases h20:a20=b20
                     ·subst h20;simp
                     simp[h20]
                    simp[h19]
                   simp[h18]
                  simp[h17]
                 simp[h16]
                simp[h15]
               simp[h14]
              simp[h13]
             simp[h12]
            simp[h11]
           simp[h10]
          simp[h9]
         simp[h8]
        simp[h7]
       simp[h6]
      simp[h5]
     simp[h4]
    simp[h3]
   simp[h2]
  simp[h1]
 simp[h0]
theorem plain_one(p:Pk):∀v∈(plainV p).toList,v.oneCell'=true:=by intro v hv;simp only[plainV,List.mem_cons,List.not_mem_nil,or_false]at hv;rcases hv with h | h | h | h | h | h | h | h | h | h | h | h | h | h | h | h | h | h | h | h | h<;>(subst h;rfl)
theorem build_plain(p:Pk)(W:World):(Instr.build 174 #[(0,.int .i64 p.kind),(1,.bool p.dup),(2,.bool p.retain),(3,.bool p.clean),(4,.bool p.hasWill),(5,.bool p.hasUser),(6,.bool p.hasPass),(7,.bool p.present),(8,.int .i64 p.qos),(9,.int .i64 p.code),(10,.int .i64 p.id),(11,.int .i64 p.keep),(12,.string ⟨p.topic.toArray⟩),(13,.string ⟨p.body.toArray⟩),(14,.string ⟨p.client.toArray⟩),(15,.string ⟨p.user.toArray⟩),(16,.string ⟨p.pass.toArray⟩),(17,.agg #[.string ⟨p.will.topic.toArray⟩,.string ⟨p.will.body.toArray⟩,.int .i64 p.will.qos,.bool p.will.retain])]).run prog W=.ok (.agg (plainV p)) W:=by kernel_rfl
def zPl:Array Value:=plainV (zPk 0)
theorem pk_flat(p:Pk)(h:H3)(w:World):Calls prog 107 #[.agg (p.cells h).toArray] w fun e w'=>e=.returned (.agg (plainV p))/\Below w.heap.size w w':=by
 obtain⟨cs,hcs⟩:=gen_of ((p.cells h).toArray);have hB:Blk (w.alloc (.cells cs 52)) w.heap.size cs 52:=Blk.new _ _ _;have hB2:Blk ((w.alloc (.cells cs 52)).alloc (.cells zPl 174)) w.heap.size cs 52:=hB.alloc _;have hZ:Blk ((w.alloc (.cells cs 52)).alloc (.cells zPl 174)) (w.heap.size+1) zPl 174:=by have:=Blk.new (w.alloc (.cells cs 52)) zPl 174;simpa using this
 have hb2:Below w.heap.size w ((w.alloc (.cells cs 52)).alloc (.cells zPl 174)):=(bel_refl.alloc nat_le_rfl _).alloc (by simp) _;have k0:∀o,((w.alloc (.cells cs 52)).alloc o).cell? ⟨w.heap.size,0,none⟩=some (.int .i64 p.kind):=fun o=>by rw[(hB.alloc o).cell,<-hcs];rfl
 have k1:∀o,((w.alloc (.cells cs 52)).alloc o).cell? ⟨w.heap.size,1,none⟩=some (.bool p.dup):=fun o=>by rw[(hB.alloc o).cell,<-hcs];rfl
 have k2:∀o,((w.alloc (.cells cs 52)).alloc o).cell? ⟨w.heap.size,2,none⟩=some (.bool p.retain):=fun o=>by rw[(hB.alloc o).cell,<-hcs];rfl
 have k8:∀o,((w.alloc (.cells cs 52)).alloc o).cell? ⟨w.heap.size,8,none⟩=some (.bool p.clean):=fun o=>by rw[(hB.alloc o).cell,<-hcs];rfl
 have k10:∀o,((w.alloc (.cells cs 52)).alloc o).cell? ⟨w.heap.size,10,none⟩=some (.bool p.hasWill):=fun o=>by rw[(hB.alloc o).cell,<-hcs];rfl
 have k15:∀o,((w.alloc (.cells cs 52)).alloc o).cell? ⟨w.heap.size,15,none⟩=some (.bool p.hasUser):=fun o=>by rw[(hB.alloc o).cell,<-hcs];rfl
 have k16:∀o,((w.alloc (.cells cs 52)).alloc o).cell? ⟨w.heap.size,16,none⟩=some (.bool p.hasPass):=fun o=>by rw[(hB.alloc o).cell,<-hcs];rfl
 have k19:∀o,((w.alloc (.cells cs 52)).alloc o).cell? ⟨w.heap.size,19,none⟩=some (.bool p.present):=fun o=>by rw[(hB.alloc o).cell,<-hcs];rfl
 have k3:∀o,((w.alloc (.cells cs 52)).alloc o).cell? ⟨w.heap.size,3,none⟩=some (.int .i64 p.qos):=fun o=>by rw[(hB.alloc o).cell,<-hcs];rfl
 have k20:∀o,((w.alloc (.cells cs 52)).alloc o).cell? ⟨w.heap.size,20,none⟩=some (.int .i64 p.code):=fun o=>by rw[(hB.alloc o).cell,<-hcs];rfl
 have k6:∀o,((w.alloc (.cells cs 52)).alloc o).cell? ⟨w.heap.size,6,none⟩=some (.int .i64 p.id):=fun o=>by rw[(hB.alloc o).cell,<-hcs];rfl
 have k9:∀o,((w.alloc (.cells cs 52)).alloc o).cell? ⟨w.heap.size,9,none⟩=some (.int .i64 p.keep):=fun o=>by rw[(hB.alloc o).cell,<-hcs];rfl
 have k4:∀o,((w.alloc (.cells cs 52)).alloc o).cell? ⟨w.heap.size,4,none⟩=some (.string ⟨p.topic.toArray⟩):=fun o=>by rw[(hB.alloc o).cell,<-hcs];rfl
 have k5:∀o,((w.alloc (.cells cs 52)).alloc o).cell? ⟨w.heap.size,5,none⟩=some (.string ⟨p.body.toArray⟩):=fun o=>by rw[(hB.alloc o).cell,<-hcs];rfl
 have k7:∀o,((w.alloc (.cells cs 52)).alloc o).cell? ⟨w.heap.size,7,none⟩=some (.string ⟨p.client.toArray⟩):=fun o=>by rw[(hB.alloc o).cell,<-hcs];rfl
 have k17:∀o,((w.alloc (.cells cs 52)).alloc o).cell? ⟨w.heap.size,17,none⟩=some (.string ⟨p.user.toArray⟩):=fun o=>by rw[(hB.alloc o).cell,<-hcs];rfl
 have k18:∀o,((w.alloc (.cells cs 52)).alloc o).cell? ⟨w.heap.size,18,none⟩=some (.string ⟨p.pass.toArray⟩):=fun o=>by rw[(hB.alloc o).cell,<-hcs];rfl
 have hwl:=hB2.mid [.int .i64 p.kind,.bool p.dup,.bool p.retain,.int .i64 p.qos,.string ⟨p.topic.toArray⟩,.string ⟨p.body.toArray⟩,.int .i64 p.id,.string ⟨p.client.toArray⟩,.bool p.clean,.int .i64 p.keep,.bool p.hasWill] [.string ⟨p.will.topic.toArray⟩,.string ⟨p.will.body.toArray⟩,.int .i64 p.will.qos,.bool p.will.retain] ((p.cells h).drop 15) (by rw[<-hcs];rfl);have hone:=hid (plain_one p);rw[hcs];clear hcs hB hB2;replace hb2:=hid hb2;unfold zPl at*
 go_enter func107,ntmps107;go_wp2_with (first
  | (refine wS 174 21 rfl (w.heap.size+1) _ _ rfl rfl hZ rfl rfl hone.out ?_;intro w2 hw2 hr2)
  | (refine wLm 47 rfl rfl hwl underlying47 ?_)
  | (refine wBuild 174 rfl #[(0,.int .i64 p.kind),(1,.bool p.dup),(2,.bool p.retain),(3,.bool p.clean),(4,.bool p.hasWill),(5,.bool p.hasUser),(6,.bool p.hasPass),(7,.bool p.present),(8,.int .i64 p.qos),(9,.int .i64 p.code),(10,.int .i64 p.id),(11,.int .i64 p.keep),(12,.string ⟨p.topic.toArray⟩),(13,.string ⟨p.body.toArray⟩),(14,.string ⟨p.client.toArray⟩),(15,.string ⟨p.user.toArray⟩),(16,.string ⟨p.pass.toArray⟩),(17,.agg #[.string ⟨p.will.topic.toArray⟩,.string ⟨p.will.body.toArray⟩,.int .i64 p.will.qos,.bool p.will.retain])] rfl _ (build_plain p) ?_))
 refine bodyPost_ret (results_cell1 results107 rfl (run_loadVar_blk hw2 174 underlying174 rfl (by kernel_rfl))) rfl ⟨rfl,hb2.trans (hr2.below (by simp;omega) (by simp))⟩
structure Tells (P:Prop)(w:World)(e:Ending)(w':World):Prop where
 out:∃b:Bool,e=.returned (.bool b)/\(b=true↔P)/\Below w.heap.size w w'
theorem Tells.yes{P:Prop}{w w':World}(h:P)(hb:Below w.heap.size w w'):Tells P w (.returned (.bool true)) w':=⟨true,rfl,⟨fun _=>h,fun _=>rfl⟩,hb⟩
theorem Tells.no{P:Prop}{w w':World}(h:¬P)(hb:Below w.heap.size w w'):Tells P w (.returned (.bool false)) w':=⟨false,rfl,⟨fun e=>(by cases e),fun e=>absurd e h⟩,hb⟩
structure PB (b:Nat)(p:Pk)(h:H3)(q:Pk)(k:H3)(w:World):Prop where
 one:Blk w b (p.cells h).toArray 52
 two:Blk w (b+1) (q.cells k).toArray 52
theorem PB.below{b:Nat}{p:Pk}{h:H3}{q:Pk}{k:H3}{w w':World}(x:PB b p h q k w)(hb:Below w.heap.size w w'):PB b p h q k w':=⟨x.one.below hb,x.two.below hb⟩
def flatB(p q:Pk):Bool:=decide (p.kind=q.kind)&&decide (p.dup=q.dup)&&decide (p.retain=q.retain)&&decide (p.clean=q.clean)&&decide (p.hasWill=q.hasWill)&&decide (p.hasUser=q.hasUser)&&decide (p.hasPass=q.hasPass)&&decide (p.present=q.present)&&decide (p.qos=q.qos)&&decide (p.code=q.code)&&decide (p.id=q.id)&&decide (p.keep=q.keep)&&decide (p.topic=q.topic)&&decide (p.body=q.body)&&decide (p.client=q.client)&&decide (p.user=q.user)&&decide (p.pass=q.pass)&&decide (p.will.topic=q.will.topic)&&decide (p.will.body=q.will.body)&&decide (p.will.qos=q.will.qos)&&decide (p.will.retain=q.will.retain)
theorem flat_eql(p q:Pk)(W:World):(binOp .eql 174 (.agg (plainV p)) (.agg (plainV q))).run prog W=.ok (.bool (flatB p q)) W:=by unfold plainV flatB;exact plain_eql _ _ _ _ _ _ _ _ _ _ _ _ _ _ _ _ _ _ _ _ _ _ _ _ _ _ _ _ _ _ _ _ _ _ _ _ _ _ _ _ _ _ W
theorem Pk.same_iff(p q:Pk):p=q↔p.wants=q.wants/\p.codes=q.codes/\p.filters=q.filters/\flatB p q=true:=by
 obtain⟨a1,a2,a3,a4,a5,a6,a7,a8,a9,a10,a11,⟨a12,a13,a14,a15⟩,a16,a17,a18,a19,a20,a21,a22,a23,a24⟩:=p;obtain⟨b1,b2,b3,b4,b5,b6,b7,b8,b9,b10,b11,⟨b12,b13,b14,b15⟩,b16,b17,b18,b19,b20,b21,b22,b23,b24⟩:=q;unfold flatB;simp only[Bool.and_eq_true,decide_eq_true_eq,Pk.mk.injEq,WillV.mk.injEq];constructor
 ·rintro⟨rfl,rfl,rfl,rfl,rfl,rfl,rfl,rfl,rfl,rfl,rfl,⟨rfl,rfl,rfl,rfl⟩,rfl,rfl,rfl,rfl,rfl,rfl,rfl,rfl,rfl⟩;simp
 rintro⟨rfl,rfl,rfl,⟨⟨⟨⟨⟨⟨⟨⟨⟨⟨⟨⟨⟨⟨⟨⟨⟨⟨⟨⟨rfl,rfl⟩,rfl⟩,rfl⟩,rfl⟩,rfl⟩,rfl⟩,rfl⟩,rfl⟩,rfl⟩,rfl⟩,rfl⟩,rfl⟩,rfl⟩,rfl⟩,rfl⟩,rfl⟩,rfl⟩,rfl⟩,rfl⟩,rfl⟩⟩;simp
theorem eqg_plain(p q:Pk)(s1 s2:Operand)(W:World):(eqGuard .eql 174 s1 s2 (.agg (plainV p)) (.agg (plainV q))).run prog W=.ok () W:=by unfold plainV;go_simp
theorem pk_Same(p:Pk)(h:H3)(q:Pk)(k:H3)(w:World)(hp:p.In w h)(hq:q.In w k):
  Calls prog 81 #[.agg (p.cells h).toArray,.agg (q.cells k).toArray] w (Tells (p=q) w):=by
 obtain⟨W0,hW0⟩:=gen_of ((w.alloc (.cells (p.cells h).toArray 52)).alloc (.cells (q.cells k).toArray 52));have hb0:Below w.heap.size w W0:=by rw[<-hW0];exact(bel_refl.alloc nat_le_rfl _).alloc (by simp) _
 have hP0:PB w.heap.size p h q k W0:=by rw[<-hW0];refine⟨(Blk.new _ _ _).alloc _,?_⟩;have:=Blk.new (w.alloc (.cells (p.cells h).toArray 52)) (q.cells k).toArray 52;simpa using this
 have HP:=hid hp;have HQ:=hid hq;have hb0:=hid hb0;have hP0:=hid hP0;obtain⟨pv,hpv⟩:=gen_of ((p.cells h).toArray);obtain⟨qv,hqv⟩:=gen_of ((q.cells k).toArray);rw[hpv,hqv];rw[hpv,hqv]at hW0;replace hpv:=hid hpv;replace hqv:=hid hqv;go_enter func81,ntmps81;go_wp2_with fail
 have hPd:PB w.heap.size p h q k W0.drew:=⟨hP0.one,hP0.two⟩;have hLd:Below w.heap.size w W0.drew:=hb0.drew;replace hLd:=hid hLd;clear hW0;refine regionQ [(1000,fun w'=>PB w.heap.size p h q k w')] (by kernel_rfl) ⟨hPd,trivial⟩ fun KQ hKQ=>?_;refine tQ [0] ?_;refine lR 1 0 rfl rfl rfl rfl (fun w' hf=>by(have k0:w'.cell? ⟨w.heap.size,21,none⟩=some (.slice h.w.a h.w.n h.w.c):=hf.one.cell 21;go_simp<;>with_reducible rfl)) ?_;simp only[PT];refine tQ [2] ?_;refine lR 3 0 rfl rfl rfl rfl (fun w' hf=>by(have k0:w'.cell? ⟨w.heap.size+1,21,none⟩=some (.slice k.w.a k.w.n k.w.c):=hf.two.cell 21;go_simp<;>with_reducible rfl)) ?_;simp only[PT];refine sQ 4 fun K hK=>?_;simp only[GO];go_simp;refine(sl_EqualW (HP.lw.below hLd.out) (HQ.lw.below hLd.out)).mono ?_;rintro e w1 ⟨c1,rfl,hc1,hb1⟩;have hP1:=hPd.below hb1;have hL1:=hid (hLd.trans (hb1.mono hLd.size));replace hc1:=hid hc1;refine hK _ _ ⟨⟨fun _=>hP1,trivial⟩,?_⟩;clear hK K;try simp only[PT]
 refine tQ [5] ?_;cases c1 with
 |false=>
  have hno:Hid (¬p=q):=hid fun e=>by have:=hc1.2 (by rw[e]);cases this
  refine uQ 6 ?_;refine uQ 7 ?_;refine uQ 8 ?_;refine uQ 9 ?_;refine uQ 10 ?_;refine tQ [11,12] ?_;refine uQ 13 ?_;refine uQ 14 ?_;refine uQ 15 ?_;refine uQ 16 ?_;refine uQ 17 ?_;refine tQ [18,19] ?_;refine uQ 20 ?_;refine uQ 21 ?_;refine uQ 22 ?_;refine uQ 23 ?_;refine uQ 24 ?_;refine tQ [25,26] ?_;refine dQ (hKQ.out _ _ ?_);clear hKQ KQ;go_wp2;go_ret;exact Tells.no hno.out hL1.out
 | true=>
  refine tQ [6] ?_;refine lR 7 0 rfl rfl rfl rfl (fun w' hf=>by(have k0:w'.cell? ⟨w.heap.size,22,none⟩=some (.slice h.c.a h.c.n h.c.c):=hf.one.cell 22;go_simp<;>with_reducible rfl)) ?_;simp only[PT];refine tQ [8] ?_;refine lR 9 0 rfl rfl rfl rfl (fun w' hf=>by(have k0:w'.cell? ⟨w.heap.size+1,22,none⟩=some (.slice k.c.a k.c.n k.c.c):=hf.two.cell 22;go_simp<;>with_reducible rfl)) ?_;simp only[PT];refine sQ 10 fun K hK=>?_;simp only[GO];go_simp;refine(sl_EqualI (HP.lc.below hL1.out) (HQ.lc.below hL1.out)).mono ?_;rintro e w2 ⟨c2,rfl,hc2,hb2⟩;have hP2:=hP1.below hb2;have hL2:=hid (hL1.trans (hb2.mono hL1.size));replace hc2:=hid hc2;refine hK _ _ ⟨⟨fun _=>hP2,trivial⟩,?_⟩;clear hK K;try simp only[PT]
  refine tQ [11,12] ?_;cases c2 with
  |false=>
   have hno:Hid (¬p=q):=hid fun e=>by have:=hc2.2 (by rw[e]);cases this
   refine uQ 13 ?_;refine uQ 14 ?_;refine uQ 15 ?_;refine uQ 16 ?_;refine uQ 17 ?_;refine tQ [18,19] ?_;refine uQ 20 ?_;refine uQ 21 ?_;refine uQ 22 ?_;refine uQ 23 ?_;refine uQ 24 ?_;refine tQ [25,26] ?_;refine dQ (hKQ.out _ _ ?_);clear hKQ KQ;go_wp2;go_ret;exact Tells.no hno.out hL2.out
  | true=>
   refine tQ [13] ?_;refine lR 14 0 rfl rfl rfl rfl (fun w' hf=>by(have k0:w'.cell? ⟨w.heap.size,23,none⟩=some (.slice h.f.a h.f.n h.f.c):=hf.one.cell 23;go_simp<;>with_reducible rfl)) ?_;simp only[PT];refine tQ [15] ?_;refine lR 16 0 rfl rfl rfl rfl (fun w' hf=>by(have k0:w'.cell? ⟨w.heap.size+1,23,none⟩=some (.slice k.f.a k.f.n k.f.c):=hf.two.cell 23;go_simp<;>with_reducible rfl)) ?_;simp only[PT];refine sQ 17 fun K hK=>?_;simp only[GO];go_simp;refine(sl_EqualS (HP.lf.below hL2.out) (HQ.lf.below hL2.out)).mono ?_;rintro e w3 ⟨c3,rfl,hc3,hb3⟩;have hP3:=hP2.below hb3;have hL3:=hid (hL2.trans (hb3.mono hL2.size));replace hc3:=hid hc3;refine hK _ _ ⟨⟨fun _=>hP3,trivial⟩,?_⟩;clear hK K;try simp only[PT]
   refine tQ [18,19] ?_;cases c3 with
   |false=>
    have hno:Hid (¬p=q):=hid fun e=>by have:=hc3.2 (by rw[e]);cases this
    refine uQ 20 ?_;refine uQ 21 ?_;refine uQ 22 ?_;refine uQ 23 ?_;refine uQ 24 ?_;refine tQ [25,26] ?_;refine dQ (hKQ.out _ _ ?_);clear hKQ KQ;go_wp2;go_ret;exact Tells.no hno.out hL3.out
   | true=>
    refine lR 20 0 rfl rfl rfl rfl (fun w' hf=>run_load_blk hf.one 52 underlying52 rfl (by kernel_rfl)) ?_;try simp only[PT]
    refine lR 22 0 rfl rfl rfl rfl (fun w' hf=>run_load_blk hf.two 52 underlying52 rfl (by kernel_rfl)) ?_;try simp only[PT]
    refine sQ 21 fun K hK=>?_;simp only[GO];go_simp;refine(pk_flat p h w3).mono ?_;rintro e w4 ⟨rfl,hb4⟩;have hP4:=hP3.below hb4;have hL4:=hid (hL3.trans (hb4.mono hL3.size));refine hK _ _ ⟨⟨fun _=>hP4,trivial⟩,?_⟩;clear hK K;try simp only[PT]
    refine sQ 23 fun K hK=>?_;simp only[GO];go_simp;refine(pk_flat q k w4).mono ?_;rintro e w5 ⟨rfl,hb5⟩;have hP5:=hP4.below hb5;have hL5:=hid (hL4.trans (hb5.mono hL4.size));refine hK _ _ ⟨⟨fun _=>hP5,trivial⟩,?_⟩;clear hK K;have hq:=flat_eql p q;have hg:=eqg_plain p q;have hiff:=hid (Pk.same_iff p q);obtain⟨v1,hv1⟩:=gen_of (Value.agg (plainV p));obtain⟨v2,hv2⟩:=gen_of (Value.agg (plainV q));obtain⟨c4,hc4⟩:=gen_of (flatB p q);rw[hv1,hv2]at hq hg;rw[hc4]at hq hiff;rw[hv1,hv2];clear hv1 hv2 hc4;try simp only[PT]
    refine tQ [24,25,26] ?_;refine dQ (hKQ.out _ _ ?_);clear hKQ KQ;go_wp2;go_ret;refine⟨c4,rfl,?_,hL5.out⟩;rw[hiff.out];constructor
    ·intro h4;exact⟨by simpa using hc1.out,by simpa using hc2.out,by simpa using hc3.out,h4⟩
    exact fun h4=>h4.2.2.2
theorem wLmG{P:Program}{w:World}{ops:Array Oper}{rest:List Oper}{op:Oper}{a:Act}{Q:Exit->Act->World->Prop}(ty:TypeId){x:Operand}(ho:op.op=.load ty x){b j:Nat}{cs:List Value}(hx:a.eval x=.pointer (some ⟨b,j,none⟩))(hr:w.rangeAt b j cs){d:TypeDesc}(hu:P.underlying ty=some d)
  (h:wpList P ops Q rest (a.put op.dst (.agg cs.toArray)) w) (hw:Region.wanted op (yielded ops a.tmps)=true:=by kernel_rfl) (hd:d.isRow=true:=by rfl) (hi:(P.info? ty).map (·.size)=some cs.length:=by kernel_rfl):wpList P ops Q (op::rest) a w:=by
 have hl:=run_loadAt_mid (P:=P) w b j ty cs d hr hu hd hi;unfold wpList;rw[if_pos hw];refine .inl ?_;unfold Oper.wp execOp;simp only[ho,hx,Sem.run_bind,hl,Result.andThen_ok,Sem.run_pure];exact h
structure TB (b:Nat)(x:TnC)(y:TnC)(w:World):Prop where
 one:Blk w b x.cells.toArray 55
 two:Blk w (b+1) y.cells.toArray 55
theorem TB.below{b:Nat}{x y:TnC}{w w':World}(h:TB b x y w)(hb:Below w.heap.size w w'):TB b x y w':=⟨h.one.below hb,h.two.below hb⟩
theorem Tn.same_iff(t u:Tn):t=u↔t.kind=u.kind/\t.conn=u.conn/\t.pk=u.pk/\t.bytes=u.bytes/\t.arm=u.arm/\t.n=u.n/\t.picks=u.picks:=by obtain⟨a1,a2,a3,a4,a5,a6,a7⟩:=t;obtain⟨b1,b2,b3,b4,b5,b6,b7⟩:=u;simp
theorem sc_same(x y:TnC)(w:World)(hx:x.t.In w x.h x.hp)(hy:y.t.In w y.h y.hp):
  Calls prog 34 #[.agg x.cells.toArray,.agg y.cells.toArray] w (Tells (x.t=y.t) w):=by
 have hiff:=Tn.same_iff x.t y.t;obtain⟨P,hP⟩:=gen_of ((x.t=y.t):Prop);rw[hP]at hiff ⊢;clear hP;replace hiff:=hid hiff;obtain⟨⟨tk,tc,tp,tb,ta,tn,ti⟩,th,thp⟩:=x;obtain⟨⟨uk,uc,up,ub,ua,un,ui⟩,uh,uhp⟩:=y;dsimp only at*
 have HX:=hid hx;have HY:=hid hy;obtain⟨xv,hxv⟩:=gen_of ((TnC.cells ⟨⟨tk,tc,tp,tb,ta,tn,ti⟩,th,thp⟩).toArray);obtain⟨yv,hyv⟩:=gen_of ((TnC.cells ⟨⟨uk,uc,up,ub,ua,un,ui⟩,uh,uhp⟩).toArray);obtain⟨W0,hW0⟩:=gen_of ((w.alloc (.cells xv 55)).alloc (.cells yv 55));have hb0:Below w.heap.size w W0:=by rw[<-hW0];exact(bel_refl.alloc nat_le_rfl _).alloc (by simp) _
 have hT0:TB w.heap.size ⟨⟨tk,tc,tp,tb,ta,tn,ti⟩,th,thp⟩ ⟨⟨uk,uc,up,ub,ua,un,ui⟩,uh,uhp⟩ W0:=by rw[<-hW0,<-hxv,<-hyv];refine⟨(Blk.new _ _ _).alloc _,?_⟩;have:=Blk.new (w.alloc (.cells (TnC.cells ⟨⟨tk,tc,tp,tb,ta,tn,ti⟩,th,thp⟩).toArray 55)) (TnC.cells ⟨⟨uk,uc,up,ub,ua,un,ui⟩,uh,uhp⟩).toArray 55;simpa using this
 have k0:W0.cell? ⟨w.heap.size,0,none⟩=some (.int .i64 tk):=hT0.one.cell 0;have j0:W0.cell? ⟨w.heap.size+1,0,none⟩=some (.int .i64 uk):=hT0.two.cell 0;have k1:W0.cell? ⟨w.heap.size,1,none⟩=some (.int .i64 tc):=hT0.one.cell 1;have j1:W0.cell? ⟨w.heap.size+1,1,none⟩=some (.int .i64 uc):=hT0.two.cell 1;have hm1:=hT0.one.mid [.int .i64 tk,.int .i64 tc] (tp.cells th) [.string ⟨tb.toArray⟩,.int .i64 ta,.int .i64 tn,.slice thp.a thp.n thp.c] rfl;have hm2:=hT0.two.mid [.int .i64 uk,.int .i64 uc] (up.cells uh) [.string ⟨ub.toArray⟩,.int .i64 ua,.int .i64 un,.slice uhp.a uhp.n uhp.c] rfl;have hb0:=hid hb0;have hT0:=hid hT0;rw[hxv,hyv];replace hxv:=hid hxv;replace hyv:=hid hyv;by_cases h0:tk=uk
 ·subst h0;by_cases h1:tc=uc
  ·subst h1;go_enter func34,ntmps34;go_wp2_with (first
    | (refine wLmG 52 rfl rfl hm1 underlying52 ?_)
    | (refine wLmG 52 rfl rfl hm2 underlying52 ?_))
   refine(pk_Same tp th up uh W0 (HX.pk.below hb0.out) (HY.pk.below hb0.out)).mono ?_;rintro e w1 ⟨b1,rfl,hb1,hbel1⟩;have hT1:=hT0.below hbel1;have hL1:=hid (hb0.trans (hbel1.mono hb0.size));replace hb1:=hid hb1;clear k0 k1 j0 j1 hm1 hm2 hbel1;have k26:w1.cell? ⟨w.heap.size,26,none⟩=some (.string ⟨tb.toArray⟩):=hT1.one.cell 26;have j26:w1.cell? ⟨w.heap.size+1,26,none⟩=some (.string ⟨ub.toArray⟩):=hT1.two.cell 26;have k27:w1.cell? ⟨w.heap.size,27,none⟩=some (.int .i64 ta):=hT1.one.cell 27;have j27:w1.cell? ⟨w.heap.size+1,27,none⟩=some (.int .i64 ua):=hT1.two.cell 27;have k28:w1.cell? ⟨w.heap.size,28,none⟩=some (.int .i64 tn):=hT1.one.cell 28;have j28:w1.cell? ⟨w.heap.size+1,28,none⟩=some (.int .i64 un):=hT1.two.cell 28;have k29:w1.cell? ⟨w.heap.size,29,none⟩=some (.slice thp.a thp.n thp.c):=hT1.one.cell 29;have j29:w1.cell? ⟨w.heap.size+1,29,none⟩=some (.slice uhp.a uhp.n uhp.c):=hT1.two.cell 29;replace hT1:=hid hT1;cases b1 with
   |false=>
    have hno:Hid (¬P):=hid fun e=>by have:=hb1.2 (hiff.1 e).2.2.1;cases this
    go_wp2;go_ret;exact Tells.no hno.out hL1.out
   | true=>
    by_cases h2:tb=ub
    ·subst h2;by_cases h3:ta=ua
     ·subst h3;by_cases h4:tn=un
      ·subst h4;go_wp2_with fail
       refine(sl_EqualI (HX.p.below hL1.out) (HY.p.below hL1.out)).mono ?_;rintro e w2 ⟨b2,rfl,hb2,hbel2⟩;have hL2:=hid (hL1.trans (hbel2.mono hL1.size));replace hb2:=hid hb2;clear hbel2;go_wp2_with fail;go_ret;refine⟨b2,rfl,?_,hL2.out⟩;rw[hb2.out,hiff.out];constructor
       ·intro h5;exact⟨by trivial,by trivial,by simpa using hb1.out,by trivial,by trivial,by trivial,h5⟩
       exact fun h5=>h5.2.2.2.2.2.2
      have dn:(tn==un)=false:=by simpa using h4
      have hno:Hid (¬P):=hid fun e=>h4 (hiff.1 e).2.2.2.2.2.1;replace h4:=hid h4;go_wp2;go_ret;exact Tells.no hno.out hL1.out
     have dn:(ta==ua)=false:=by simpa using h3
     have hno:Hid (¬P):=hid fun e=>h3 (hiff.1 e).2.2.2.2.1;replace h3:=hid h3;go_wp2;go_ret;exact Tells.no hno.out hL1.out
    have dn:(tb==ub)=false:=by simpa using h2
    have hno:Hid (¬P):=hid fun e=>h2 (hiff.1 e).2.2.2.1;replace h2:=hid h2;go_wp2;go_ret;exact Tells.no hno.out hL1.out
  have dn:(tc==uc)=false:=by simpa using h1
  have hno:Hid (¬P):=hid fun e=>h1 (hiff.1 e).2.1;replace h1:=hid h1;go_enter func34,ntmps34;go_wp2;go_ret;exact Tells.no hno.out hb0.out
 have dn:(tk==uk)=false:=by simpa using h0
 have hno:Hid (¬P):=hid fun e=>h0 (hiff.1 e).1;replace h0:=hid h0;go_enter func34,ntmps34;go_wp2;go_ret;exact Tells.no hno.out hb0.out
end
theorem rawL_taken:∀(l:List UInt8)(k:Nat),l.length=k+1->(∀j,j<k->∀x,l[j]?=some x->128<=x.toNat)->(∀x,l[k]?=some x->x.toNat<128/\(k=0\/x.toNat≠0))->
  rawL (k+1) (takenL l)=l/\(k=0\/takenL l≠0)
 | [],k,h,_,_=>by simp at h
 |x::l,0,h,_,h2=>by
  obtain rfl:l=[]:=by cases l with | nil=>rfl | cons _ _=>simp at h
  obtain⟨h3, -⟩:=h2 x rfl;refine⟨?_,.inl rfl⟩;unfold rawL takenL takenL rawL;rw[Nat.mul_zero,Nat.add_zero,Nat.mod_eq_of_lt h3,if_pos h3];simp
 | x::l,k+1,h,h1,h2=>by
  have hl:l.length=k+1:=by simpa using h
  obtain⟨e1,e2⟩:=rawL_taken l k hl (fun j hj y hy=>h1 (j+1) (by omega) y (by simpa using hy)) (fun y hy=>by obtain⟨a,b⟩:=h2 y (by simpa using hy);exact⟨a,.inr (b.resolve_left (by omega))⟩)
  have hx:128<=x.toNat:=h1 0 (by omega) x rfl;have hx2:=x.toNat_lt;have ht:takenL l≠0:=by
   rcases e2 with rfl | h4
   ·match l,hl with
    |[y],_=>obtain⟨a,b⟩:=h2 y rfl;unfold takenL takenL;have:=b.resolve_left (by omega);omega
   exact h4
  have h5:takenL (x::l)=x.toNat%128+128*takenL l:=rfl;have h6:¬takenL (x::l)<128:=by omega
  have h7:takenL (x::l)%128+128=x.toNat:=by omega
  have h8:takenL (x::l) / 128=takenL l:=by omega
  refine⟨?_,.inr (by omega)⟩;unfold rawL;rw[if_neg h6,h7,h8,e1];simp
theorem idxOf_eq{α:Type}(p:α->Bool):∀(l:List α)(k:Nat),idxOf p l=(k:Int)->(∃x,l[k]?=some x/\p x=true)/\∀j,j<k->∀x,l[j]?=some x->p x=false
 | [],k,h=>by simp[idxOf]at h
 | x::l,k,h=>by
  unfold idxOf at h;by_cases hx:p x=true
  ·rw[if_pos hx]at h;obtain rfl:k=0:=by omega
   exact⟨⟨x,rfl,hx⟩,fun j hj=>by omega⟩
  rw[if_neg hx]at h;dsimp only at h;split at h
  ·omega
  rename_i hge;cases k with
  | zero=>omega
  | succ k=>
   obtain⟨⟨y,h1,h2⟩,h3⟩:=idxOf_eq p l k (by omega);refine⟨⟨y,by simpa using h1,h2⟩,fun j hj z hz=>?_⟩;cases j with
   |zero=>simp at hz;subst hz;simpa using hx
   | succ j=>exact h3 j (by omega) z (by simpa using hz)
theorem readL_some{l:List UInt8}(h0:(readL l).2.2=0)(h1:(readL l).2.1≠0):
  ∃n:Nat,(readL l).1=(n:Int)/\mayL n=true/\(readL l).2.1=(sizeL n:Int)/\l.take (sizeL n)=rawL (sizeL n) n/\sizeL n<=l.length:=by
 unfold readL at h0 h1 ⊢;dsimp only at h0 h1 ⊢;obtain⟨e,he⟩:=gen_of (idxOf (fun x:UInt8=>decide (x.toNat<128)) (l.take 4));rw[he]at h0 h1 ⊢;split at h1
 ·split at h1<;>simp at h1
 rename_i hge;obtain⟨k,rfl⟩:=Int.eq_ofNat_of_zero_le (show 0<=e by omega);rw[if_neg hge]at h0 ⊢;simp only[Int.toNat_natCast]at h0 h1 ⊢;split at h1
 case isFalse=>simp at h1
 rename_i hs;rw[if_pos hs];obtain⟨⟨x,hx,hp⟩,hall⟩:=idxOf_eq _ _ _ he;rw[List.getElem?_take]at hx;split at hx
 case isFalse=>cases hx
 rename_i hk4;have hkl:k<l.length:=(List.getElem?_eq_some_iff.1 hx).1;have hp:x.toNat<128:=by simpa using hp
 have hlk:(l.take k).length=k:=List.length_take_of_le (by omega);have hsn:l.take (k+1)=l.take k++[x]:=by rw[List.take_add_one,hx];rfl
 have hne:x.toNat≠0\/k=0:=by have h2:=takenL_snoc (l.take k) x;have h3:=takenL_lt (l.take k);rw[hlk]at h2 h3;rw[Nat.mod_eq_of_lt hp]at h2;refine(sizeL_last (takenL (l.take k)) k x.toNat h3 hk4 hp).1 ?_;rw[<-h2,<-hsn];exact hs
 obtain⟨e1, -⟩:=rawL_taken (l.take (k+1)) k (List.length_take_of_le (by omega)) (fun j hj y hy=>by
  rw[List.getElem?_take,if_pos (by omega)]at hy;have h4:=hall j hj y (by rw[List.getElem?_take,if_pos (by omega)];exact hy);have h5:¬y.toNat<128:=by simpa using h4
  omega) (fun y hy=>by
  rw[List.getElem?_take,if_pos (by omega),hx]at hy;cases hy;exact⟨hp,hne.symm⟩)
 refine⟨takenL (l.take (k+1)),rfl,?_,by rw[hs];simp,by rw[hs];exact e1.symm,by omega⟩;unfold sizeL at hs;split at hs
 ·omega
 rename_i h;simpa using h
instance:DecidableEq Pk:=fun p q=>decidable_of_iff _ (Pk.same_iff p q).symm
instance (p:Pk):Decidable (rightP p):=inferInstanceAs (Decidable (_/\_))
def lenB(n:Nat):List UInt8:=rawL (sizeL n) n
def rawPk(p:Pk):List UInt8:=UInt8.ofNat (16*p.kind.toNat+flagN p)::(lenB (bodyP p).length++bodyP p)
def parsePk(l:List UInt8):Option Pk:=match l with
 | []=>none
 | h::r=>
  if (readL r).2.2=0/\(readL r).2.1≠0/\(r.length:Int)-(readL r).2.1=(readL r).1 then
   (readP ((h.toNat / 16:Nat):Int) (h.toNat%16) (r.drop (readL r).2.1.toNat)).bind fun x=>if x.2=[]/\flagN x.1=h.toNat%16/\rightP x.1 then some x.1 else none
  else none
theorem flagN_lt{p:Pk}(h:rightP p):flagN p<16:=by
 unfold flagN;split
 ·rename_i hk;have h1:=h.1;unfold mayP at h1;simp only[hk]at h1;have h2:mayPub p=true:=by simpa using h1
  unfold mayPub at h2;have h3:within p.qos 0 2=true:=by simp only[Bool.and_eq_true]at h2;exact h2.1.2
  have h4:=within_iff.1 h3;unfold bitN;split<;>split<;>omega
 split<;>decide
theorem flat_le{α:Type}(f:α->List UInt8)(m:Nat):∀(l:List α),(∀x∈l,(f x).length<=m)->(l.flatMap f).length<=l.length*m
 | [],_=>by simp
 |x::l,h=>by have h1:=flat_le f m l (fun y hy=>h y (List.mem_cons_of_mem _ hy));have h2:=h x (List.mem_cons_self ..);rw[List.flatMap_cons,List.length_append,List.length_cons,Nat.add_mul];omega
theorem txtB_len(s:List UInt8):(txtB s).length=2+s.length:=by unfold txtB;rw[List.length_append,numB_len]
theorem filterR_len{s:List UInt8}(h:filterR s=true):s.length<=200:=by unfold filterR at h;rw[Bool.and_eq_true]at h;have h1:=h.2;unfold saidR at h1;simp only[Bool.and_eq_true,decide_eq_true_eq]at h1;omega
theorem ite_len(b:Prop)[Decidable b](x:List UInt8)(m:Nat)(h:b->x.length<=m):(if b then x else[]).length<=m:=by
 split
 ·rename_i hb;exact h hb
 simp
theorem bodyP_len{p:Pk}(h:rightP p):(bodyP p).length<=5000:=by
 have hm:=h.1;by_cases h1:p.kind=1
 ·have hc:mayC p=true:=by unfold mayP at hm;simpa[h1]using hm
  obtain⟨a1, -,a3,a4,a5⟩:=mayC_parts hc;have b1:=saidN_len a1;have b3:(if p.hasWill then txtB p.will.topic++txtB p.will.body else[]).length<=2210:=ite_len _ _ _ fun hw=>by
   rcases a3 with⟨e, -⟩ | ⟨-,c1,c2, -⟩
   ·rw[e]at hw;cases hw
   have:=nameR_len c1;rw[List.length_append,txtB_len,txtB_len];omega
  have b4:(if p.hasUser then txtB p.user else[]).length<=202:=ite_len _ _ _ fun hw=>by
   rcases a4 with⟨-,c1⟩ | ⟨e, -⟩
   ·have:=saidN_len c1;rw[txtB_len];omega
   rw[e]at hw;cases hw
  have b5:(if p.hasPass then txtB p.pass else[]).length<=202:=ite_len _ _ _ fun hw=>by
   rcases a5 with⟨-,c1⟩ | ⟨e, -⟩
   ·rw[txtB_len];omega
   rw[e]at hw;cases hw
  unfold bodyP;rw[if_pos h1];simp only[List.length_append,txtB_len,numB_len]at b3 b4 b5 ⊢;have:mqtt.length=4:=rfl;omega
 by_cases h2:p.kind=2
 ·rw[bodyP_2 h2,List.length_append,numB_len,numB_len];omega
 by_cases h3:p.kind=3
 ·have hc:mayPub p=true:=by unfold mayP at hm;simpa[h3]using hm
  unfold mayPub at hc;simp only[Bool.and_eq_true,decide_eq_true_eq]at hc;have:=nameR_len hc.1.1.1;have b2:(if 0<p.qos then numB 2 p.id.toNat else[]).length<=2:=ite_len _ _ _ fun _=>by rw[numB_len];omega
  rw[bodyP_3 h3,List.length_append,List.length_append,txtB_len];omega
 by_cases h8:p.kind=8
 ·have hc:fitL p.wants mayWant=true:=by unfold mayP at hm;simp only[h8]at hm;simp at hm;exact hm.2
  have hall:=fitL_all hc;have hle:p.wants.length<=8:=by unfold fitL at hc;simp only[Bool.and_eq_true,decide_eq_true_eq]at hc;omega
  have:=flat_le wantB 203 p.wants (fun x hx=>by have h4:=hall x hx;unfold mayWant at h4;rw[Bool.and_eq_true]at h4;have:=filterR_len h4.1;unfold wantB;rw[List.length_append,txtB_len,numB_len];omega)
  rw[bodyP_8 h8,List.length_append,numB_len];omega
 by_cases h9:p.kind=9
 ·have hc:fitL p.codes mayCode=true:=by unfold mayP at hm;simp only[h9]at hm;simp at hm;exact hm.2
  have hle:p.codes.length<=8:=by unfold fitL at hc;simp only[Bool.and_eq_true,decide_eq_true_eq]at hc;omega
  have:=flat_le (fun c:Int=>numB 1 c.toNat) 1 p.codes (fun x _=>by rw[numB_len];omega);rw[bodyP_9 h9,List.length_append,numB_len];omega
 by_cases h10:p.kind=10
 ·have hc:fitL p.filters filterR=true:=by unfold mayP at hm;simp only[h10]at hm;simp at hm;exact hm.2
  have hall:=fitL_all hc;have hle:p.filters.length<=8:=by unfold fitL at hc;simp only[Bool.and_eq_true,decide_eq_true_eq]at hc;omega
  have:=flat_le txtB 202 p.filters (fun x hx=>by have:=filterR_len (hall x hx);rw[txtB_len];omega)
  rw[bodyP_10 h10,List.length_append,numB_len];omega
 by_cases hi:4<=p.kind/\p.kind<=11
 ·rw[bodyP_i hi h8 h9 h10,numB_len];omega
 rw[bodyP_0 h1 h2 h3 h8 h9 h10 hi];simp
theorem sizeL_le4(n:Int):sizeL n<=4:=sizeL_le n
theorem rawPk_len{p:Pk}(h:rightP p):(rawPk p).length<=5005:=by unfold rawPk lenB;rw[List.length_cons,List.length_append,rawL_len];have:=bodyP_len h;have:=sizeL_le4 (bodyP p).length;omega
theorem parsePk_iff(b:List UInt8)(p:Pk):parsePk b=some p↔rightP p/\rawPk p=b:=by
 constructor
 ·intro h;unfold parsePk at h;split at h
  ·cases h
  rename_i hd r;split at h
  case isFalse=>cases h
  rename_i hc;obtain⟨c0,c1,c2⟩:=hc;obtain⟨n,e1,e2,e3,e4,e5⟩:=readL_some c0 c1;rw[e3]at c2 h;rw[e1]at c2;rw[Int.toNat_natCast]at h;cases hx:readP ((hd.toNat / 16:Nat):Int) (hd.toNat%16) (r.drop (sizeL n))with
  | none=>rw[hx]at h;cases h
  |some x=>
   rw[hx,Option.bind_some]at h;split at h
   case isFalse=>cases h
   rename_i hr;obtain⟨r1,r2,r3⟩:=hr;cases h;obtain⟨q,rest⟩:=x;dsimp only at r1 r2 r3;subst r1;obtain⟨f1,f2,f3,f4⟩:=reads_iff.1 ⟨hx,r2,r3⟩;refine⟨f1,?_⟩;unfold rawPk lenB;dsimp only;have h7:(bodyP q).length=n:=by rw[f4,List.length_drop];omega
   rw[f2,f3,h7,f4,<-e4,List.take_append_drop];have h8:16*((hd.toNat / 16:Nat):Int).toNat+hd.toNat%16=hd.toNat:=by rw[Int.toNat_natCast];omega
   rw[h8];simp
 rintro⟨h,rfl⟩;have hk:=rightP_kind h;have hf:=flagN_lt h;have hl:=bodyP_len h;have hm:mayL (bodyP p).length=true:=(mayL_iff _).2 (by omega);have hr:=readL_raw ((bodyP p).length:Int) hm (bodyP p);rw[Int.toNat_natCast]at hr;have hs:sizeL ((bodyP p).length:Int)≠0:=by
  unfold sizeL;rw[hm];simp only[Bool.true_eq_false,if_false]
  repeat' split
  all_goals decide
 have hb:(UInt8.ofNat (16*p.kind.toNat+flagN p)).toNat=16*p.kind.toNat+flagN p:=u8_of _ (by omega);unfold parsePk rawPk lenB;dsimp only;rw[hr];dsimp only;rw[if_pos ⟨rfl,by omega,by rw[List.length_append,rawL_len];omega⟩,Int.toNat_natCast,List.drop_append_of_le_length (by rw[rawL_len];omega),List.drop_of_length_le (by rw[rawL_len];omega),List.nil_append,hb];have g1:(16*p.kind.toNat+flagN p) / 16=p.kind.toNat:=by omega
 have g2:(16*p.kind.toNat+flagN p)%16=flagN p:=by omega
 rw[g1,g2,Int.toNat_of_nonneg (by omega),readP_body h,Option.bind_some,if_pos ⟨rfl,rfl,h⟩]
def pkC:PkCode:=⟨rawPk,parsePk,parsePk_iff,fun p h=>by have:=rawPk_len h;omega⟩
section
attribute [local go_sem] Oper.semAt_some
def fnC(f:FuncId):Prop:=∀args W,(callFunc f args).run prog W=.ok (.enter f args) W
structure MayHas (c:Nat)(x:TnC)(f1:FuncId)(c1:Array Value)(f2:FuncId)(c2:Array Value):Prop where
 e1:fnC f1
 e2:fnC f2
 may:∀W,x.t.In W x.h x.hp->Boxed W c 66 (fnV 45 #[])->Calls prog f1 (#[.agg x.cells.toArray]++c1) W (Tells (mayT x.t) W)
 has:∀W,Calls prog f2 (#[.agg x.cells.toArray]++c2) W fun e w'=>∃y:TnC,e=.returned (.agg y.cells.toArray)/\{y.t with kind:=x.t.kind}=aloneT x.t/\(∀W',x.t.In W' x.h x.hp->y.t.In W' y.h y.hp)/\Below W.heap.size W w'
def KindDo(x:TnC):Prop:=∀c v,kindG c x.t.kind=some v->∃f1 c1 f2 c2 f3 c3 f4 c4,v=.agg #[fnV f1 c1,fnV f2 c2,fnV f3 c3,fnV f4 c4]/\MayHas c x f1 c1 f2 c2
theorem kindG_none{c:Nat}{k:Int}(h:kindG c k=none):¬(1<=k/\k<=8):=by
 intro ⟨h1,h2⟩;unfold kindG at h;have:k=1\/k=2\/k=3\/k=4\/k=5\/k=6\/k=7\/k=8:=by omega
 rcases this with rfl | rfl | rfl | rfl | rfl | rfl | rfl | rfl<;>simp at h
def NewOK(c:CfV):Prop:=∀W,TzAt W->Calls prog 74 #[.agg c.cl.toArray] W fun e w'=>∃x z,e=.returned (.tuple #[x,.int .i64 z])/\(z=0↔cfOK c)/\Below W.heap.size W w'
structure Rights (P:Prop)(why:Int)(w:World)(e:Ending)(w':World):Prop where
 out:∃b:Bool,(b=true↔P)/\e=(if b then .returned (.tuple #[])else .panicked (given why))/\Below w.heap.size w w'
theorem Rights.yes{P:Prop}{why:Int}{w w':World}(h:P)(hb:Below w.heap.size w w'):Rights P why w (.returned (.tuple #[])) w':=⟨true,by simpa using h,rfl,hb⟩
theorem Rights.no{P:Prop}{why:Int}{w w':World}(h:¬P)(hb:Below w.heap.size w w'):Rights P why w (.panicked (given why)) w':=⟨false,by simpa using h,rfl,hb⟩
structure RiI (w:World)(n k:Nat)(s:ScC)(W:World):Prop where
 below:Below w.heap.size w W
 all:∀(j:Nat) x,s.ts[j]?=some x->j<k->rightT x.t
 head:cfOK s.cf/\(2<=s.pages/\s.pages<=4096)/\n<=2000
theorem atR_more{P:Program}{ops:Array Oper}{KQ:Exit->Act->World->Prop}{facts:List Fact}{taken:List Nat}{a:Act}{w:World}(more:List Fact)(hs:∀f∈facts,f∈more)(h0:HoldR taken more w)(h:atR P ops KQ more taken a w):atR P ops KQ facts taken a w:=by
 intro hlt hc hf hp;have hm:∀(fuel:Nat)(listed:Array Bool)(a:Act)(w:World),wpAnyR P .any ops KQ more fuel listed a w->wpAnyR P .any ops KQ facts fuel listed a w:=by
  intro fuel;induction fuel with
  | zero=>intro listed a w h;exact h
  |succ n ih=>intro listed a w h;exact⟨h.1,fun i hi=>wpOp_mono (fun a' w' h'=>⟨fun f hf=>h'.1 f (hs f hf),ih _ _ _ h'.2⟩) (h.2 i hi)⟩
 refine hm _ _ _ _ (h hlt hc (fun f hf hl=>?_) hp);rw[listedOf_get taken f.1 hlt]at hl;exact h0.mem f hf hl
structure KAt (w:World)(tb:Nat)(xc:Array Value)(x:TnC)(kb:Nat)(g1 g2 g3 g4:Value)(is:Bool)(W:World):Prop where
 below:Below w.heap.size w W
 turn:Blk W tb xc 55
 kind:Blk W kb #[g1,g2,g3,g4] 71
 none:is=false->¬(1<=x.t.kind/\x.t.kind<=8)
 some:is=true->∃c,kindG c x.t.kind=some (.agg #[g1,g2,g3,g4])/\Boxed W c 66 (fnV 45 #[])
theorem TnC.setKind(y:TnC)(k:Int):y.cells.toArray.setIfInBounds 0 (.int .i64 k)=({y with t:={y.t with kind:=k}}:TnC).cells.toArray:=rfl
def zKd:Array Value:=#[.nilFunc,.nilFunc,.nilFunc,.nilFunc]
theorem look_kd{w:World}{m c:Nat}(h:IM .i64 w m (kindG c))(k:Int):(Instr.lookup 73 (.map (some m)) (.int .i64 k) true).run prog w=.ok (.tuple #[(kindG c k).getD (.agg zKd),.bool (kindG c k).isSome]) w:=
 run_lookup_im 73 44 71 underlying73 underlying44 h (.agg zKd) (by kernel_rfl) k true
theorem kindG_agg(c:Nat)(k:Int):∃g1 g2 g3 g4,(kindG c k).getD (.agg zKd)=.agg #[g1,g2,g3,g4]/\(∀v∈#[g1,g2,g3,g4].toList,v.oneCell'=true)/\((kindG c k).isSome=true->kindG c k=some (.agg #[g1,g2,g3,g4])):=by
 unfold kindG
 repeat' split
 all_goals exact⟨_,_,_,_,rfl,by simp[fnV,Value.oneCell'],by simp;try rfl⟩
theorem sc_right(s:ScC)(why:Int)(w:World)(hs:s.In w)(hT:TzAt w)(hN:NewOK s.cf)(hk:∀x∈s.ts,KindDo x):
  Calls prog 27 #[.agg s.cells.toArray,.int .i64 why] w (Rights (rightS s.sc) why w):=by
 have CM:=hid sc_must;obtain⟨sv,hsv⟩:=gen_of s.cells.toArray;obtain⟨W0,hW0⟩:=gen_of (w.alloc (.cells sv 30));have hb0:Below w.heap.size w W0:=by rw[<-hW0];exact bel_refl.alloc nat_le_rfl _
 have b1:Blk W0 w.heap.size s.cells.toArray 30:=by rw[<-hW0,<-hsv];exact Blk.new _ _ _
 have m1:=b1.mid [] s.cf.cl [.int .i64 s.pages,.slice s.ht.a s.ht.n s.ht.c] rfl;have C1:=hid (hN W0 (hT.below hb0));have HL:=hs.t.len;have HS:=hid hs;have hb0:=hid hb0;replace hk:=hid hk;have HB1:=hid b1;clear hs hN b1;have HR:Hid (∀(n:Nat),s.ts.length=n->∀w1,RiI w n n s w1->rightS s.sc):=hid fun n hn w1 h=>by
  refine⟨h.head.1,h.head.2.1,?_,?_⟩
  ·have:=h.head.2.2;show(s.ts.map TnC.t).length<=2000;rw[List.length_map];omega
  intro t ht;obtain⟨x,hx,rfl⟩:=List.mem_map.1 (show t∈s.ts.map TnC.t from ht);obtain⟨j,hj,e⟩:=List.getElem_of_mem hx;exact h.all j x (by rw[<-e];exact List.getElem?_eq_getElem hj) (by omega)
 have HNo:Hid (rightS s.sc->cfOK s.cf/\2<=s.pages/\s.pages<=4096/\s.ts.length<=2000/\∀x∈s.ts,rightT x.t):=hid fun h=>⟨h.1,h.2.1.1,h.2.1.2,by have:=h.2.2.1;unfold ScC.sc at this;simpa using this,fun x hx=>h.2.2.2 _ (List.mem_map_of_mem hx)⟩;obtain⟨Q,hQ⟩:=gen_of (rightS s.sc:Prop);rw[hQ]at HR HNo ⊢;clear hQ;rw[hsv];replace hsv:=hid hsv;go_enter func27,ntmps27;go_wp2_with (refine wLm 27 rfl rfl m1 underlying27 ?_)
 refine C1.mono ?_;rintro e w1 ⟨x,z,rfl,hz,hb1⟩;have hB1:=hid (hb0.trans (hb1.mono hb0.size));have bx:=HB1.below hb1;have k7:w1.cell? ⟨w.heap.size,1+6,none⟩=some (.int .i64 s.pages):=bx.cell 7;have k8:w1.cell? ⟨w.heap.size,8,none⟩=some (.slice s.ht.a s.ht.n s.ht.c):=bx.cell 8;have hb1':=hid hb1;clear hb1 m1 bx;have HBX:=hid (HB1.below hb1'.out);have W1:=hB1.size;obtain⟨p,hp⟩:=gen_of s.pages;obtain⟨n,hn⟩:=gen_of s.ht.n;rw[hp]at k7;rw[hn]at k8;obtain⟨sa,hsa⟩:=gen_of s.ht.a;obtain⟨sc,hsc⟩:=gen_of s.ht.c;rw[hsa,hsc]at k8;have HP:=hid hp;have HN:=hid (show s.ts.length=n by rw[HL,hn]);have HS1:=hid (HS.t);rw[hn,hsa,hsc]at HS1;clear hsa hsc;clear hp HL;by_cases h0:z=0
 ·subst h0;by_cases h1:2<=p
  ·by_cases h2:p<=4096
   ·by_cases h3:(n:Int)<=2000
    ·have h3':n<=2000:=by omega
     have d3:decide ((n:Int)<=2000)=true:=decide_eq_true h3;have hh:=hid (show cfOK s.cf/\(2<=s.pages/\s.pages<=4096)/\n<=2000 from⟨hz.1 rfl,by rw[HP.out];exact⟨h1,h2⟩,h3'⟩);clear hz hn;go_wp2_with (go_at_call 19;refine(CM _ _ _).mono ?_;rintro e w9 ⟨rfl,rfl⟩);go_loopw [40] (fun i wr=>∃k:Nat,i=.int .i64 k/\k<=n/\Hid (RiI w n k s wr)) (fun i _=>n-(intOf i).toNat)
     case atStart=>exact⟨0,rfl,Nat.zero_le _,hid ⟨hB1.out,fun j x _ h=>absurd h (by omega),hh.out⟩⟩
     case round=>
      obtain⟨k,rfl,hk1,hI⟩:=hrel;rcases Nat.lt_or_ge k n with hlt | hge
      ·obtain⟨x,hx⟩:∃x,s.ts[k]?=some x:=⟨_,List.getElem?_eq_getElem (by rw[HN.out];exact hlt)⟩;obtain⟨g1,o1,ha1,hr1⟩:=HS1.range hx;have hc1:=hr1 _ hI.out.below;subst ha1;have hxin:=hid (HS.each x (List.mem_of_getElem? hx));have hdo:=hid (hk x (List.mem_of_getElem? hx));have ox:=hid (Tn.one x.t x.h x.hp);replace hx:=hid hx;obtain⟨xc,hxc⟩:=gen_of x.cells;have sx:xc.toArray.size=30:=by rw[<-hxc];rfl
       have ox:Hid (∀v∈xc.toArray.toList,v.oneCell'=true):=hid (by rw[<-hxc];exact ox.out);rw[hxc]at hc1;replace sx:=hid sx;clear hr1;have hb0:=hI.out.below.size;go_upto_region 6 with(first
        | (refine wLm 55 rfl rfl hc1 underlying55 ?_ rfl rfl (by rw[<-hxc];kernel_rfl))
        | (refine wS 55 30 rfl _ _ _ rfl rfl (Blk.new _ _ _) sx.out rfl ox.out ?_;intro w5 hw5 hr5))
       have hb5:=hid ((hI.out.below.alloc hb0 _).trans (hr5.below (by simp;omega) (by simp;omega)));have hw5':=hid hw5;clear hr5 hc1;obtain⟨kd,hkd⟩:=gen_of x.t.kind;have kc:Hid (∀W,Blk W wr.heap.size xc.toArray 55->W.cell? ⟨wr.heap.size,0,none⟩=some (.int .i64 kd)):=hid fun W hb=>by rw[hb.cell,<-hxc,<-hkd];rfl
       replace hkd:=hid hkd;replace hxc:=hid hxc;clear hw5;try simp only[PT]
       go_cut [8,9]from 44 (fun s8 s9 wx=>∃(kb:Nat)(g1 g2 g3 g4:Value)(is:Bool),s8=.pointer (some ⟨kb,0,none⟩)/\s9=.bool is/\Hid (KAt w wr.heap.size xc.toArray x kb g1 g2 g3 g4 is wx))
       case first=>
        have BW5:Below w.heap.size w w5.drew:=hb5.drew;have tW5:Blk w5.drew wr.heap.size xc.toArray 55:=hw5'.out;refine regionQ [(1000,fun w'=>Blk w' wr.heap.size xc.toArray 55)] (by kernel_rfl) ⟨tW5,trivial⟩ fun KQ hKQ=>?_;try simp only[PT]
        obtain⟨W5,hW5⟩:=gen_of w5.drew;rw[hW5]at BW5 tW5 ⊢;refine tQ [1] ?_;refine loadQ 2 rfl (by kernel_rfl) (by kernel_rfl) rfl rfl 0 rfl (by kernel_rfl) (.int .i64 kd) (fun w' hf=>by(have k0:=kc _ hf;go_simp<;>with_reducible rfl)) ?_;simp only[PT];refine stepM [0,7] (fun j hj=>?_);have hj:j=0\/j=7:=by simpa using hj
        rcases hj with rfl | rfl
        ·refine⟨⟨_,rfl,by kernel_rfl,fun K hK=>?_⟩⟩;go_simp;refine(sc_kinds _).mono ?_;rintro e w6 ⟨m,c,rfl,hm,hc,hb6⟩;have ht6:=tW5.below hb6;obtain⟨g1,g2,g3,g4,hg,hone,hsome⟩:=kindG_agg c kd;have hB6:=BW5.trans (hb6.mono BW5.size);refine hK _ _ ⟨⟨fun _=>ht6,trivial⟩,?_⟩;clear hK K;try simp only[PT]
         refine atR_more [(1000,fun w'=>Blk w' wr.heap.size xc.toArray 55),(1000,fun w'=>IM .i64 w' m (kindG c))] (by simp) ⟨fun _=>ht6,fun _=>hm,trivial⟩ ?_;refine lookQ 3 rfl (by kernel_rfl) (by kernel_rfl) rfl rfl rfl 1 rfl (by kernel_rfl) (.tuple #[.agg #[g1,g2,g3,g4],.bool (kindG c kd).isSome]) (fun w' hf=>(look_kd hf kd).trans (by rw[hg])) ?_;try simp only[PT]
         refine tQ [4,5,6] ?_;obtain⟨is,his⟩:=gen_of ((kindG c kd).isSome);rw[his];refine sQ 7 fun K hK=>?_;simp only[GO];go_simp;refine hK _ _ ⟨⟨fun _=>ht6.alloc _,fun _=>hm.alloc _,trivial⟩,?_⟩;clear hK K;try simp only[PT]
         refine sQ 8 fun K hK=>?_;simp only[GO];refine wW 71 4 rfl w6.heap.size zKd #[g1,g2,g3,g4] rfl rfl (Blk.new _ _ _) rfl rfl hone fun w7 hw7 hr7=>?_;replace hr7:Wrote [w6.heap.size] (w6.alloc (.cells zKd 71)) w7:=hr7;have hs6:=hB6.size;have hz6:(w6.alloc (.cells zKd 71)).heap.size=w6.heap.size+1:=by simp
         have hb7:=(hB6.alloc hB6.size (.cells zKd 71)).trans (hr7.below (by omega) (by simp;omega));have ht7:=(ht6.alloc (.cells zKd 71)).keepW hr7 (by have:=ht6.lt;simp;omega);have hc7:=hr7.boxed (by have:=hc.lt;simp;omega) (hc.alloc (.cells zKd 71));have hm7:=(hm.alloc (.cells zKd 71)).wrote hr7 (by have:=hm.lt;simp;omega);refine hK _ _ ⟨⟨fun _=>ht7,fun _=>hm7,trivial⟩,?_⟩;clear hK K;try simp only[PT]
         refine tQ [9] ?_;refine dQ (hKQ.out _ _ ?_);clear hKQ KQ;have hR:=hid (show KAt w wr.heap.size xc.toArray x w6.heap.size g1 g2 g3 g4 is w7 from⟨hb7,ht7,hw7,fun h=>kindG_none (by rw[hkd.out];rw[<-his]at h;exact Option.isSome_eq_false_iff.1 h |>Option.isNone_iff_eq_none.1),fun h=>⟨c,by rw[hkd.out];exact hsome (by rw[his,h]),hc7⟩⟩);go_wp2;go_meet
         case rel=>exact⟨_,_,_,_,_,_,rfl,rfl,hR⟩
        refine⟨⟨_,rfl,by kernel_rfl,fun K hK=>?_⟩⟩;go_simp;refine hK _ _ ⟨⟨fun _=>tW5.alloc _,trivial⟩,?_⟩;clear hK K;try simp only[PT]
        refine sQ 0 fun K hK=>?_;simp only[GO];go_simp;refine(sc_kinds _).mono ?_;rintro e w6 ⟨m,c,rfl,hm,hc,hb6⟩;have ht6:=(tW5.alloc (.cells zKd 71)).below hb6;have hk6:=(Blk.new W5 zKd 71).below hb6;obtain⟨g1,g2,g3,g4,hg,hone,hsome⟩:=kindG_agg c kd;have hs5:=BW5.size;have hz5:(W5.alloc (.cells zKd 71)).heap.size=W5.heap.size+1:=by simp
        have hB6:=(BW5.alloc hs5 (.cells zKd 71)).trans (hb6.mono (by simp;omega));have hb6s:W5.heap.size+1<=w6.heap.size:=by have:=hb6.size;simpa using this
        refine hK _ _ ⟨⟨fun _=>ht6,trivial⟩,?_⟩;clear hK K;try simp only[PT]
        refine atR_more [(1000,fun w'=>Blk w' wr.heap.size xc.toArray 55),(1000,fun w'=>IM .i64 w' m (kindG c))] (by simp) ⟨fun _=>ht6,fun _=>hm,trivial⟩ ?_;refine lookQ 3 rfl (by kernel_rfl) (by kernel_rfl) rfl rfl rfl 1 rfl (by kernel_rfl) (.tuple #[.agg #[g1,g2,g3,g4],.bool (kindG c kd).isSome]) (fun w' hf=>(look_kd hf kd).trans (by rw[hg])) ?_;try simp only[PT]
        refine tQ [4,5,6] ?_;obtain⟨is,his⟩:=gen_of ((kindG c kd).isSome);rw[his];refine sQ 8 fun K hK=>?_;simp only[GO];have hne:m≠W5.heap.size:=fun h=>by obtain⟨es,cl,h1, -⟩:=hm;have h2:w6.heap[W5.heap.size]?=_:=hk6;rw[h,h2]at h1;cases h1
        have hnc:c≠W5.heap.size:=fun h=>by have h1:w6.heap[c]?=_:=hc;have h2:w6.heap[W5.heap.size]?=_:=hk6;rw[h,h2]at h1;cases h1
        refine wW 71 4 rfl W5.heap.size zKd #[g1,g2,g3,g4] rfl rfl hk6 rfl rfl hone fun w7 hw7 hr7=>?_;have hb7:=hB6.trans (hr7.below (by have:=hB6.size;omega) (by simp;omega));have ht7:=ht6.keepW hr7 (by have:=tW5.lt;simp;omega);have hc7:=hr7.boxed (by simpa using hnc) hc;have hm7:=hm.wrote hr7 (by simpa using hne);refine hK _ _ ⟨⟨fun _=>ht7,fun _=>hm7,trivial⟩,?_⟩;clear hK K;try simp only[PT]
        refine tQ [9] ?_;refine dQ (hKQ.out _ _ ?_);clear hKQ KQ;have hR:=hid (show KAt w wr.heap.size xc.toArray x W5.heap.size g1 g2 g3 g4 is w7 from⟨hb7,ht7,hw7,fun h=>kindG_none (by rw[hkd.out];rw[<-his]at h;exact Option.isSome_eq_false_iff.1 h |>Option.isNone_iff_eq_none.1),fun h=>⟨c,by rw[hkd.out];exact hsome (by rw[his,h]),hc7⟩⟩);go_wp2;go_meet
        case rel=>exact⟨_,_,_,_,_,_,rfl,rfl,hR⟩
       case rest=>
        obtain⟨kb,g1,g2,g3,g4,is,rfl,rfl,hK⟩:=hcut;have hnr:Hid (¬mayT x.t->¬Q):=hid fun h hq=>h ((HNo hq).2.2.2.2 x (List.mem_of_getElem? hx.out)).1;have hkr:Hid (¬(1<=x.t.kind/\x.t.kind<=8)->¬Q):=hid fun h hq=>h (rightT_kind ((HNo hq).2.2.2.2 x (List.mem_of_getElem? hx.out)));have har:Hid (aloneT x.t≠x.t->¬Q):=hid fun h hq=>h ((HNo hq).2.2.2.2 x (List.mem_of_getElem? hx.out)).2;cases is with
        |false=>have hno:Hid (¬Q):=hid (hkr (hK.out.none rfl));clear hb5;go_wp2_with (go_at_call 19;refine(CM _ _ _).mono ?_;rintro e w9 ⟨rfl,rfl⟩);exact⟨rfl,Rights.no hno.out hK.out.below⟩
        | true=>
         obtain⟨c,hkg,hbx⟩:=hK.out.some rfl;obtain⟨f1,c1,f2,c2,f3,c3,f4,c4,hv,hmh⟩:=hdo c _ hkg;simp only[Value.agg.injEq,Array.mk.injEq,List.cons.injEq,and_true]at hv;obtain⟨rfl,rfl,rfl,rfl⟩:=hv;have k0:wc.cell? ⟨kb,0,none⟩=some (fnV f1 c1):=hK.out.kind.cell 0;have e1:=hmh.e1;have e2:=hmh.e2;unfold fnC at e1 e2;have tm:=hK.out.turn.mid [] xc [] (by simp);have ix:(prog.info? 55).map (·.size)=some xc.length:=by rw[show xc.length=30 from by simpa using sx.out];exact(by kernel_rfl:(prog.info? 55).map (·.size)=some 30)
         have CY:=hid (hmh.may wc (hxin.below hK.out.below) hbx);rw[hxc.out]at CY;unfold fnV at k0;clear hb5;go_wp2_with (first
          | (refine wLmG 55 rfl rfl tm underlying55 ?_ (by kernel_rfl) rfl ix))
         refine CY.mono ?_;rintro e w8 ⟨b,rfl,hb,hb8⟩;have HB8:=hid (hK.out.below.trans (hb8.mono hK.out.below.size));have ht8:=hK.out.turn.below hb8;have hk8:=hK.out.kind.below hb8;replace hb:=hid hb;clear hb8 tm k0;cases b with
         |false=>
          have hno:Hid (¬Q):=hid (hnr (fun h=>by have:=hb.2 h;cases this));go_wp2_with (go_at_call 19;refine(CM _ _ _).mono ?_;rintro e w9 ⟨rfl,rfl⟩)
          exact⟨rfl,Rights.no hno.out HB8.out⟩
         | true=>
          have k1:w8.cell? ⟨kb,1,none⟩=some (fnV f2 c2):=hk8.cell 1;have CZ:=hid (hmh.has w8);rw[hxc.out]at CZ;unfold fnV at k1;have ix2:(prog.info? 55).map (·.size)=some xc.toArray.size:=by rw[sx.out];exact(by kernel_rfl:(prog.info? 55).map (·.size)=some 30)
          clear hK hmh hk8;go_wp2_with (first
           | (go_at_call 19;refine(CM _ _ _).mono ?_;rintro e w9 ⟨rfl,rfl⟩)
           | (refine wL 55 rfl rfl ht8 underlying55 ?_ rfl rfl ix2))
          refine CZ.mono ?_;rintro e w9 ⟨y,rfl,hy,hyi,hb9⟩;have HB9:=hid (HB8.trans (hb9.mono HB8.size));have ht9:=ht8.below hb9;have oy:=hid (Tn.one y.t y.h y.hp);have hyk:=hid (TnC.setKind y kd);obtain⟨yc,hyc⟩:=gen_of y.cells.toArray;have sy:Hid (yc.size=30):=hid (by rw[<-hyc];rfl);have oy:Hid (∀v∈yc.toList,v.oneCell'=true):=hid (by rw[<-hyc];exact oy.out);rw[hyc]at hyk ⊢;replace hy:=hid hy;replace hyi:=hid hyi;replace hyc:=hid hyc;have s9:=HB9.size;have HT9:=hid (ht9);clear hb9 ht8 k1 ht9;go_upto_region 9 with(refine wS 55 30 rfl _ _ _ rfl rfl (Blk.new _ _ _) sy.out rfl oy.out ?_;intro w10 hw10 hr10);have hz10:w9.heap.size+1<=w10.heap.size:=by have:=hr10.size;simp at this;omega
          have HB10:=hid ((HB9.alloc s9 _).trans (hr10.below (by simp;omega) (by simp;omega)));have ht10:=(HT9.alloc _).keepW hr10 (by have:=HT9.lt;simp;omega);have HT10:=hid ht10;have kk:=kc _ ht10;replace hr10:=hid hr10;go_upto_region 10 with(refine wpList_store_cell rfl 44 55 _ _ rfl (fun w=>by kernel_rfl) w9.heap.size 0 yc (.int .i64 kd) rfl rfl hw10 (by rw[sy];decide) rfl rfl ?_;intro w11 hw11 hr11);rw[hyk.out]at hw11;obtain⟨y',hy'⟩:∃y',({y with t:={y.t with kind:=kd}}:TnC)=y':=⟨_,rfl⟩;have et:y'.t=aloneT x.t:=by rw[<-hy',<-hkd.out];exact hy.out
          have ei:∀W',x.t.In W' x.h x.hp->y'.t.In W' y'.h y'.hp:=fun W' h=>by rw[<-hy'];exact⟨⟨(hyi W' h).pk.lw,(hyi W' h).pk.lc,(hyi W' h).pk.lf⟩,(hyi W' h).p⟩
          rw[hy']at hw11;have HB11:=hid (HB10.trans (hr11.below (by have:=HB10.size;omega) (by simp;omega)));have ht11:=HT10.keepW hr11 (by have:=HT9.lt;simp;omega);have CS:=hid (sc_same y' x w11 (ei _ (hxin.below HB11.out)) (hxin.below HB11.out));rw[hxc.out]at CS;rw[et]at CS;obtain⟨yd,hyd⟩:=gen_of y'.cells.toArray;have iy:(prog.info? 55).map (·.size)=some yd.size:=by rw[<-hyd];exact(by kernel_rfl:(prog.info? 55).map (·.size)=some 30)
          rw[hyd]at hw11 CS;clear hr11 hw10 kk HT10 HB10 hr10 ei et hy' hyd;go_wp2_with (first
           | (refine wL 55 rfl rfl hw11 underlying55 ?_ rfl rfl iy)
           | (refine wL 55 rfl rfl ht11 underlying55 ?_ rfl rfl ix2))
          refine CS.mono ?_;rintro e w12 ⟨b,rfl,hb',hb12⟩;have HB12:=hid (HB11.trans (hb12.mono HB11.size));replace hb':=hid hb';clear hb12 ht11 hw11;cases b with
          |false=>
           have hno:Hid (¬Q):=hid (har (fun h=>by have:=hb'.2 h;cases this));go_wp2_with (go_at_call 19;refine(CM _ _ _).mono ?_;rintro e w13 ⟨rfl,rfl⟩)
           exact⟨rfl,Rights.no hno.out HB12.out⟩
          | true=>
           have hr:Hid (rightT x.t):=hid ⟨hb.1 (by trivial),hb'.1 (by trivial)⟩;go_wp2_with (go_at_call 19;refine(CM _ _ _).mono ?_;rintro e w13 ⟨rfl,rfl⟩)
           go_roundw
           case rel=>
            refine⟨k+1,by go_num,by omega,hid ⟨HB12.out,fun j z hz hj=>?_,hI.out.head⟩⟩;by_cases hjk:j=k
            ·subst hjk;rw[hx.out]at hz;cases hz;exact hr.out
            exact hI.out.all j z hz (by omega)
           case measure=>simp[intOf];omega
      obtain rfl:k=n:=by omega
      go_wp2_with fail
      go_end0
      exact Rights.yes (HR _ HN.out _ hI.out) hI.out.below
    have hno:Hid (¬Q):=hid fun h=>by have:=(HNo h).2.2.2.1;have:=HN.out;omega
    have d3:decide ((n:Int)<=2000)=false:=decide_eq_false h3;have d4:¬n<=2000:=by omega
    clear hz hn;go_wp2_with (go_at_call 19;refine(CM _ _ _).mono ?_;rintro e w9 ⟨rfl,rfl⟩);exact⟨rfl,Rights.no hno.out hB1.out⟩
   have hno:Hid (¬Q):=hid fun h=>by have:=(HNo h).2.2.1;rw[HP.out]at this;exact h2 this
   clear hz hn;go_wp2_with (go_at_call 19;refine(CM _ _ _).mono ?_;rintro e w9 ⟨rfl,rfl⟩);exact⟨rfl,Rights.no hno.out hB1.out⟩
  have hno:Hid (¬Q):=hid fun h=>by have:=(HNo h).2.1;rw[HP.out]at this;exact h1 this
  clear hz hn;go_wp2_with (go_at_call 19;refine(CM _ _ _).mono ?_;rintro e w9 ⟨rfl,rfl⟩);exact⟨rfl,Rights.no hno.out hB1.out⟩
 have hno:Hid (¬Q):=hid fun h=>h0 (hz.2 (HNo h).1);have d0:(z==0)=false:=by simpa using h0
 clear hz hn;go_wp2_with (go_at_call 19;refine(CM _ _ _).mono ?_;rintro e w9 ⟨rfl,rfl⟩);exact⟨rfl,Rights.no hno.out hB1.out⟩
structure PEq (p q:Pk):Prop where
 wants:p.wants=q.wants
 codes:p.codes=q.codes
 filters:p.filters=q.filters
 flat:flatB p q=true
theorem PEq.iff(p q:Pk):p=q↔PEq p q:=by rw[Pk.same_iff];exact⟨fun⟨a,b,c,d⟩=>⟨a,b,c,d⟩,fun⟨a,b,c,d⟩=>⟨a,b,c,d⟩⟩
theorem r16_Same(p:Pk)(h:H3)(q:Pk)(k:H3)(w:World)(hp:p.In w h)(hq:q.In w k):
  Calls prog 78 #[.agg (p.cells h).toArray,.agg (q.cells k).toArray] w (Tells (p=q) w):=by
 have hiff:=PEq.iff p q;obtain⟨P,hP⟩:=gen_of ((p=q):Prop);rw[hP]at hiff ⊢;clear hP;replace hiff:=hid hiff;have HP:=hid hp;have HQ:=hid hq;obtain⟨pv,hpv⟩:=gen_of ((p.cells h).toArray);obtain⟨qv,hqv⟩:=gen_of ((q.cells k).toArray);obtain⟨W0,hW0⟩:=gen_of ((w.alloc (.cells pv 52)).alloc (.cells qv 52));have hb0:Below w.heap.size w W0:=by rw[<-hW0];exact(bel_refl.alloc nat_le_rfl _).alloc (by simp) _
 have hPW:PB w.heap.size p h q k W0:=by rw[<-hW0,<-hpv,<-hqv];refine⟨(Blk.new _ _ _).alloc _,?_⟩;have:=Blk.new (w.alloc (.cells (p.cells h).toArray 52)) (q.cells k).toArray 52;simpa using this
 have plw:W0.cell? ⟨w.heap.size,21,none⟩=some (.slice h.w.a h.w.n h.w.c):=hPW.one.cell 21;have qlw:W0.cell? ⟨w.heap.size+1,21,none⟩=some (.slice k.w.a k.w.n k.w.c):=hPW.two.cell 21;have plc:W0.cell? ⟨w.heap.size,22,none⟩=some (.slice h.c.a h.c.n h.c.c):=hPW.one.cell 22;have qlc:W0.cell? ⟨w.heap.size+1,22,none⟩=some (.slice k.c.a k.c.n k.c.c):=hPW.two.cell 22;have plf:W0.cell? ⟨w.heap.size,23,none⟩=some (.slice h.f.a h.f.n h.f.c):=hPW.one.cell 23;have qlf:W0.cell? ⟨w.heap.size+1,23,none⟩=some (.slice k.f.a k.f.n k.f.c):=hPW.two.cell 23;replace hb0:=hid hb0;replace hPW:=hid hPW;rw[hpv,hqv];replace hpv:=hid hpv;replace hqv:=hid hqv;have hmw:h.w.n<=9223372036854775807:=by have:=hp.lw.le;have:=hp.lw.max;unfold maxLen at this;omega
 have hmc:h.c.n<=9223372036854775807:=by have:=hp.lc.le;have:=hp.lc.max;unfold maxLen at this;omega
 have hmf:h.f.n<=9223372036854775807:=by have:=hp.lf.le;have:=hp.lf.max;unfold maxLen at this;omega
 clear hp hq;by_cases hlw:k.w.n=h.w.n
 ·by_cases hlc:k.c.n=h.c.n
  ·by_cases hlf:k.f.n=h.f.n
   ·go_enter func78,ntmps78;go_wp2_with fail
    go_loopw [5] (fun i wr=>∃j:Nat,i=.int .i64 j/\j<=h.w.n/\Hid (Below w.heap.size w wr)/\Hid (PB w.heap.size p h q k wr)/\Hid (∀m,m<j->p.wants[m]?=q.wants[m]?)) (fun i _=>h.w.n-(intOf i).toNat)
    case atStart=>exact⟨0,rfl,Nat.zero_le _,hb0,hPW,hid fun m hm=>absurd hm (by omega)⟩
    case round=>
     obtain⟨j,rfl,hj,hbr,hPr,hall⟩:=hrel;obtain⟨wr1,hwwr1⟩:∃W,W=wr:=⟨_,rfl⟩;subst hwwr1;have hPW:=hPr.out;have plw:wr1.cell? ⟨w.heap.size,21,none⟩=some (.slice h.w.a h.w.n h.w.c):=hPW.one.cell 21;have qlw:wr1.cell? ⟨w.heap.size+1,21,none⟩=some (.slice k.w.a k.w.n k.w.c):=hPW.two.cell 21;have plc:wr1.cell? ⟨w.heap.size,22,none⟩=some (.slice h.c.a h.c.n h.c.c):=hPW.one.cell 22;have qlc:wr1.cell? ⟨w.heap.size+1,22,none⟩=some (.slice k.c.a k.c.n k.c.c):=hPW.two.cell 22;have plf:wr1.cell? ⟨w.heap.size,23,none⟩=some (.slice h.f.a h.f.n h.f.c):=hPW.one.cell 23;have qlf:wr1.cell? ⟨w.heap.size+1,23,none⟩=some (.slice k.f.a k.f.n k.f.c):=hPW.two.cell 23;replace hPW:=hid hPW;rcases Nat.lt_or_ge j h.w.n with hlt | hge
     ·obtain⟨x,hx⟩:∃x,p.wants[j]?=some x:=⟨_,List.getElem?_eq_getElem (by rw[HP.lw.len];omega)⟩;obtain⟨y,hy⟩:∃y,q.wants[j]?=some y:=⟨_,List.getElem?_eq_getElem (by rw[HQ.lw.len,hlw];omega)⟩;obtain⟨g1,o1,ha1,hr1⟩:=HP.lw.range hx;obtain⟨g2,o2,ha2,hr2⟩:=HQ.lw.range hy;have hc1:=hr1 _ hbr.drew;have hc2:=hr2 _ hbr.drew;have hbw:=hid hbr.drew;have hPd:PB w.heap.size p h q k wr1.drew:=⟨hPr.out.one,hPr.out.two⟩;have HPd:=hid hPd;obtain⟨bv,hbv⟩:=gen_of (decide (x=y));have hq1:=neq_w x y;have hg1:=gu_w x y;rw[hbv]at hq1;obtain⟨xv,hxv⟩:=gen_of (wVl x);obtain⟨yv,hyv⟩:=gen_of (wVl y);skip;skip;rw[hxv,hyv]at hq1 hg1;replace hxv:=hid hxv;replace hyv:=hid hyv;replace hx:=hid hx;replace hy:=hid hy;replace hbv:=hid hbv;have hs1:Hid ((p.cells h).toArray[21]?=some (.slice (some ⟨g1,o1,none⟩) h.w.n h.w.c)):=hid (by rw[<-ha1];rfl);have hs2:Hid ((q.cells k).toArray[21]?=some (.slice (some ⟨g2,o2,none⟩) k.w.n k.w.c)):=hid (by rw[<-ha2];rfl);replace ha1:=hid ha1;replace ha2:=hid ha2;clear hr1 hr2;go_wp2_with fail;refine regionQ [(1000,fun w'=>PB w.heap.size p h q k w'),(1000,fun w'=>w'.rangeAt g1 (o1+j*2) x.cl),(1000,fun w'=>w'.rangeAt g2 (o2+j*2) y.cl)] (by kernel_rfl) ⟨hPd,hc1,hc2,trivial⟩ fun KQ hKQ=>?_;refine tQ [0] ?_;refine lR 1 0 rfl rfl rfl rfl (fun w' hf=>by(have k0:=(hf.one.cell 21).trans hs1.out;go_simp<;>with_reducible rfl)) ?_
      simp only[PT];refine tQ [2,3] ?_;refine lR 4 1 rfl rfl rfl rfl (v:=xv) (fun w' hf=>by rw[<-hxv.out];exact run_loadAt_mid w' _ _ 169 x.cl _ hf underlying169 rfl (by kernel_rfl)) ?_;try simp only[PT]
      refine tQ [5] ?_;refine lR 6 0 rfl rfl rfl rfl (fun w' hf=>by(have k0:=(hf.two.cell 21).trans hs2.out;go_simp<;>with_reducible rfl)) ?_;simp only[PT];refine tQ [7,8] ?_;refine lR 9 2 rfl rfl rfl rfl (v:=yv) (fun w' hf=>by rw[<-hyv.out];exact run_loadAt_mid w' _ _ 169 y.cl _ hf underlying169 rfl (by kernel_rfl)) ?_;try simp only[PT]
      refine tQ [10] ?_;refine dQ (hKQ.out _ _ ?_);clear hKQ KQ;rcases bv with _ | _
      ·go_wp2_with fail
       go_ret;refine Tells.no (fun e=>?_) hbw.out;have e6:=((hiff.1 e).wants);have h7:=hx.out;rw[e6,hy.out]at h7;cases h7;have h8:=hbv.out;simp at h8
      go_wp2_with fail
      go_roundw
      case rel=>
       refine⟨j+1,by go_num,by omega,hbw,HPd,hid fun m hm=>?_⟩;by_cases hmj:m=j
       ·subst hmj;rw[hx.out,hy.out,of_decide_eq_true hbv.out]
       exact hall.out m (by omega)
      case measure=>simp[intOf];omega
     obtain rfl:j=h.w.n:=by omega
     have heqw:Hid (p.wants=q.wants):=hid (by
      apply List.ext_getElem?;intro m;rcases Nat.lt_or_ge m h.w.n with h7 | h7
      ·exact hall.out m h7
      rw[List.getElem?_eq_none (by rw[HP.lw.len];exact h7),List.getElem?_eq_none (by rw[HQ.lw.len,hlw];exact h7)])
     clear hall hge hj;go_wp2_with fail;go_loopw [6] (fun i wr=>∃j:Nat,i=.int .i64 j/\j<=h.c.n/\Hid (Below w.heap.size w wr)/\Hid (PB w.heap.size p h q k wr)/\Hid (∀m,m<j->p.codes[m]?=q.codes[m]?)) (fun i _=>h.c.n-(intOf i).toNat)
     case atStart=>exact⟨0,rfl,Nat.zero_le _,hbr,hPr,hid fun m hm=>absurd hm (by omega)⟩
     case round=>
      obtain⟨j,rfl,hj,hbr,hPr,hall⟩:=hrel;obtain⟨wr2,hwwr2⟩:∃W,W=wr:=⟨_,rfl⟩;subst hwwr2;have hPW:=hPr.out;have plw:wr2.cell? ⟨w.heap.size,21,none⟩=some (.slice h.w.a h.w.n h.w.c):=hPW.one.cell 21;have qlw:wr2.cell? ⟨w.heap.size+1,21,none⟩=some (.slice k.w.a k.w.n k.w.c):=hPW.two.cell 21;have plc:wr2.cell? ⟨w.heap.size,22,none⟩=some (.slice h.c.a h.c.n h.c.c):=hPW.one.cell 22;have qlc:wr2.cell? ⟨w.heap.size+1,22,none⟩=some (.slice k.c.a k.c.n k.c.c):=hPW.two.cell 22;have plf:wr2.cell? ⟨w.heap.size,23,none⟩=some (.slice h.f.a h.f.n h.f.c):=hPW.one.cell 23;have qlf:wr2.cell? ⟨w.heap.size+1,23,none⟩=some (.slice k.f.a k.f.n k.f.c):=hPW.two.cell 23;replace hPW:=hid hPW;rcases Nat.lt_or_ge j h.c.n with hlt | hge
      ·obtain⟨x,hx⟩:∃x,p.codes[j]?=some x:=⟨_,List.getElem?_eq_getElem (by rw[HP.lc.len];omega)⟩;obtain⟨y,hy⟩:∃y,q.codes[j]?=some y:=⟨_,List.getElem?_eq_getElem (by rw[HQ.lc.len,hlc];omega)⟩;obtain⟨g1,o1,ha1,hr1⟩:=HP.lc.range hx;obtain⟨g2,o2,ha2,hr2⟩:=HQ.lc.range hy;have hc1:=hr1 _ hbr.drew;have hc2:=hr2 _ hbr.drew;have hbw:=hid hbr.drew;have hPd:PB w.heap.size p h q k wr2.drew:=⟨hPr.out.one,hPr.out.two⟩;have HPd:=hid hPd;obtain⟨bv,hbv⟩:=gen_of (decide (x=y));have hq1:=neq_i x y;have hg1:=gu_i x y;rw[hbv]at hq1;obtain⟨xv,hxv⟩:=gen_of (iVl x);obtain⟨yv,hyv⟩:=gen_of (iVl y);have hc1:wr2.drew.cell? ⟨g1,o1+j,none⟩=some xv:=by rw[<-hxv];simpa using hc1 0 (iVl x) rfl
       have hc2:wr2.drew.cell? ⟨g2,o2+j,none⟩=some yv:=by rw[<-hyv];simpa using hc2 0 (iVl y) rfl
       rw[hxv,hyv]at hq1 hg1;replace hxv:=hid hxv;replace hyv:=hid hyv;replace hx:=hid hx;replace hy:=hid hy;replace hbv:=hid hbv;have hs1:Hid ((p.cells h).toArray[22]?=some (.slice (some ⟨g1,o1,none⟩) h.c.n h.c.c)):=hid (by rw[<-ha1];rfl);have hs2:Hid ((q.cells k).toArray[22]?=some (.slice (some ⟨g2,o2,none⟩) k.c.n k.c.c)):=hid (by rw[<-ha2];rfl);replace ha1:=hid ha1;replace ha2:=hid ha2;clear hr1 hr2;go_wp2_with fail;refine regionQ [(1000,fun w'=>PB w.heap.size p h q k w'),(1000,fun w'=>w'.cell? ⟨g1,o1+j,none⟩=some xv),(1000,fun w'=>w'.cell? ⟨g2,o2+j,none⟩=some yv)] (by kernel_rfl) ⟨hPd,hc1,hc2,trivial⟩ fun KQ hKQ=>?_;refine tQ [0] ?_;refine lR 1 0 rfl rfl rfl rfl (fun w' hf=>by(have k0:=(hf.one.cell 22).trans hs1.out;go_simp<;>with_reducible rfl)) ?_;simp only[PT];refine tQ [2,3] ?_;refine lR 4 1 rfl rfl rfl rfl (fun w' hf=>by(have k0:=hf;go_simp<;>with_reducible rfl)) ?_;simp only[PT];refine tQ [5] ?_;refine lR 6 0 rfl rfl rfl rfl (fun w' hf=>by(have k0:=(hf.two.cell 22).trans hs2.out;go_simp<;>with_reducible rfl)) ?_;simp only[PT];refine tQ [7,8] ?_;refine lR 9 2 rfl rfl rfl rfl (fun w' hf=>by(have k0:=hf;go_simp<;>with_reducible rfl)) ?_;simp only[PT];refine tQ [10] ?_;refine dQ (hKQ.out _ _ ?_);clear hKQ KQ;rcases bv with _ | _
       ·go_wp2_with fail
        go_ret;refine Tells.no (fun e=>?_) hbw.out;have e6:=((hiff.1 e).codes);have h7:=hx.out;rw[e6,hy.out]at h7;cases h7;have h8:=hbv.out;simp at h8
       go_wp2_with fail
       go_roundw
       case rel=>
        refine⟨j+1,by go_num,by omega,hbw,HPd,hid fun m hm=>?_⟩;by_cases hmj:m=j
        ·subst hmj;rw[hx.out,hy.out,of_decide_eq_true hbv.out]
        exact hall.out m (by omega)
       case measure=>simp[intOf];omega
      obtain rfl:j=h.c.n:=by omega
      have heqc:Hid (p.codes=q.codes):=hid (by
       apply List.ext_getElem?;intro m;rcases Nat.lt_or_ge m h.c.n with h7 | h7
       ·exact hall.out m h7
       rw[List.getElem?_eq_none (by rw[HP.lc.len];exact h7),List.getElem?_eq_none (by rw[HQ.lc.len,hlc];exact h7)])
      clear hall hge hj;go_wp2_with fail;go_loopw [7] (fun i wr=>∃j:Nat,i=.int .i64 j/\j<=h.f.n/\Hid (Below w.heap.size w wr)/\Hid (PB w.heap.size p h q k wr)/\Hid (∀m,m<j->p.filters[m]?=q.filters[m]?)) (fun i _=>h.f.n-(intOf i).toNat)
      case atStart=>exact⟨0,rfl,Nat.zero_le _,hbr,hPr,hid fun m hm=>absurd hm (by omega)⟩
      case round=>
       obtain⟨j,rfl,hj,hbr,hPr,hall⟩:=hrel;obtain⟨wr3,hwwr3⟩:∃W,W=wr:=⟨_,rfl⟩;subst hwwr3;have hPW:=hPr.out;have plw:wr3.cell? ⟨w.heap.size,21,none⟩=some (.slice h.w.a h.w.n h.w.c):=hPW.one.cell 21;have qlw:wr3.cell? ⟨w.heap.size+1,21,none⟩=some (.slice k.w.a k.w.n k.w.c):=hPW.two.cell 21;have plc:wr3.cell? ⟨w.heap.size,22,none⟩=some (.slice h.c.a h.c.n h.c.c):=hPW.one.cell 22;have qlc:wr3.cell? ⟨w.heap.size+1,22,none⟩=some (.slice k.c.a k.c.n k.c.c):=hPW.two.cell 22;have plf:wr3.cell? ⟨w.heap.size,23,none⟩=some (.slice h.f.a h.f.n h.f.c):=hPW.one.cell 23;have qlf:wr3.cell? ⟨w.heap.size+1,23,none⟩=some (.slice k.f.a k.f.n k.f.c):=hPW.two.cell 23;replace hPW:=hid hPW;rcases Nat.lt_or_ge j h.f.n with hlt | hge
       ·obtain⟨x,hx⟩:∃x,p.filters[j]?=some x:=⟨_,List.getElem?_eq_getElem (by rw[HP.lf.len];omega)⟩;obtain⟨y,hy⟩:∃y,q.filters[j]?=some y:=⟨_,List.getElem?_eq_getElem (by rw[HQ.lf.len,hlf];omega)⟩;obtain⟨g1,o1,ha1,hr1⟩:=HP.lf.range hx;obtain⟨g2,o2,ha2,hr2⟩:=HQ.lf.range hy;have hc1:=hr1 _ hbr.drew;have hc2:=hr2 _ hbr.drew;have hbw:=hid hbr.drew;have hPd:PB w.heap.size p h q k wr3.drew:=⟨hPr.out.one,hPr.out.two⟩;have HPd:=hid hPd;obtain⟨bv,hbv⟩:=gen_of (decide (x=y));have hq1:=neq_s x y;have hg1:=gu_s x y;rw[hbv]at hq1;obtain⟨xv,hxv⟩:=gen_of (sVl x);obtain⟨yv,hyv⟩:=gen_of (sVl y);have hc1:wr3.drew.cell? ⟨g1,o1+j,none⟩=some xv:=by rw[<-hxv];simpa using hc1 0 (sVl x) rfl
        have hc2:wr3.drew.cell? ⟨g2,o2+j,none⟩=some yv:=by rw[<-hyv];simpa using hc2 0 (sVl y) rfl
        rw[hxv,hyv]at hq1 hg1;replace hxv:=hid hxv;replace hyv:=hid hyv;replace hx:=hid hx;replace hy:=hid hy;replace hbv:=hid hbv;have hs1:Hid ((p.cells h).toArray[23]?=some (.slice (some ⟨g1,o1,none⟩) h.f.n h.f.c)):=hid (by rw[<-ha1];rfl);have hs2:Hid ((q.cells k).toArray[23]?=some (.slice (some ⟨g2,o2,none⟩) k.f.n k.f.c)):=hid (by rw[<-ha2];rfl);replace ha1:=hid ha1;replace ha2:=hid ha2;clear hr1 hr2;go_wp2_with fail;refine regionQ [(1000,fun w'=>PB w.heap.size p h q k w'),(1000,fun w'=>w'.cell? ⟨g1,o1+j,none⟩=some xv),(1000,fun w'=>w'.cell? ⟨g2,o2+j,none⟩=some yv)] (by kernel_rfl) ⟨hPd,hc1,hc2,trivial⟩ fun KQ hKQ=>?_;refine tQ [0] ?_;refine lR 1 0 rfl rfl rfl rfl (fun w' hf=>by(have k0:=(hf.one.cell 23).trans hs1.out;go_simp<;>with_reducible rfl)) ?_;simp only[PT];refine tQ [2,3] ?_;refine lR 4 1 rfl rfl rfl rfl (fun w' hf=>by(have k0:=hf;go_simp<;>with_reducible rfl)) ?_;simp only[PT];refine tQ [5] ?_;refine lR 6 0 rfl rfl rfl rfl (fun w' hf=>by(have k0:=(hf.two.cell 23).trans hs2.out;go_simp<;>with_reducible rfl)) ?_;simp only[PT];refine tQ [7,8] ?_;refine lR 9 2 rfl rfl rfl rfl (fun w' hf=>by(have k0:=hf;go_simp<;>with_reducible rfl)) ?_;simp only[PT];refine tQ [10] ?_;refine dQ (hKQ.out _ _ ?_);clear hKQ KQ;rcases bv with _ | _
        ·go_wp2_with fail
         go_ret;refine Tells.no (fun e=>?_) hbw.out;have e6:=((hiff.1 e).filters);have h7:=hx.out;rw[e6,hy.out]at h7;cases h7;have h8:=hbv.out;simp at h8
        go_wp2_with fail
        go_roundw
        case rel=>
         refine⟨j+1,by go_num,by omega,hbw,HPd,hid fun m hm=>?_⟩;by_cases hmj:m=j
         ·subst hmj;rw[hx.out,hy.out,of_decide_eq_true hbv.out]
         exact hall.out m (by omega)
        case measure=>simp[intOf];omega
       obtain rfl:j=h.f.n:=by omega
       have heqf:Hid (p.filters=q.filters):=hid (by
        apply List.ext_getElem?;intro m;rcases Nat.lt_or_ge m h.f.n with h7 | h7
        ·exact hall.out m h7
        rw[List.getElem?_eq_none (by rw[HP.lf.len];exact h7),List.getElem?_eq_none (by rw[HQ.lf.len,hlf];exact h7)])
       clear hall hge hj;have hPW:=hPW.out;have p0:wr3.cell? ⟨w.heap.size,0,none⟩=some (.int .i64 p.kind):=hPW.one.cell 0;have q0:wr3.cell? ⟨w.heap.size+1,0,none⟩=some (.int .i64 q.kind):=hPW.two.cell 0;have p1:wr3.cell? ⟨w.heap.size,1,none⟩=some (.bool p.dup):=hPW.one.cell 1;have q1:wr3.cell? ⟨w.heap.size+1,1,none⟩=some (.bool q.dup):=hPW.two.cell 1;have p2:wr3.cell? ⟨w.heap.size,2,none⟩=some (.bool p.retain):=hPW.one.cell 2;have q2:wr3.cell? ⟨w.heap.size+1,2,none⟩=some (.bool q.retain):=hPW.two.cell 2;have p3:wr3.cell? ⟨w.heap.size,3,none⟩=some (.int .i64 p.qos):=hPW.one.cell 3;have q3:wr3.cell? ⟨w.heap.size+1,3,none⟩=some (.int .i64 q.qos):=hPW.two.cell 3;have p4:wr3.cell? ⟨w.heap.size,4,none⟩=some (.string ⟨p.topic.toArray⟩):=hPW.one.cell 4;have q4:wr3.cell? ⟨w.heap.size+1,4,none⟩=some (.string ⟨q.topic.toArray⟩):=hPW.two.cell 4;have p5:wr3.cell? ⟨w.heap.size,5,none⟩=some (.string ⟨p.body.toArray⟩):=hPW.one.cell 5;have q5:wr3.cell? ⟨w.heap.size+1,5,none⟩=some (.string ⟨q.body.toArray⟩):=hPW.two.cell 5;have p6:wr3.cell? ⟨w.heap.size,6,none⟩=some (.int .i64 p.id):=hPW.one.cell 6;have q6:wr3.cell? ⟨w.heap.size+1,6,none⟩=some (.int .i64 q.id):=hPW.two.cell 6;have p7:wr3.cell? ⟨w.heap.size,7,none⟩=some (.string ⟨p.client.toArray⟩):=hPW.one.cell 7;have q7:wr3.cell? ⟨w.heap.size+1,7,none⟩=some (.string ⟨q.client.toArray⟩):=hPW.two.cell 7;have p8:wr3.cell? ⟨w.heap.size,8,none⟩=some (.bool p.clean):=hPW.one.cell 8
       have q8:wr3.cell? ⟨w.heap.size+1,8,none⟩=some (.bool q.clean):=hPW.two.cell 8;have p9:wr3.cell? ⟨w.heap.size,9,none⟩=some (.int .i64 p.keep):=hPW.one.cell 9;have q9:wr3.cell? ⟨w.heap.size+1,9,none⟩=some (.int .i64 q.keep):=hPW.two.cell 9;have p10:wr3.cell? ⟨w.heap.size,10,none⟩=some (.bool p.hasWill):=hPW.one.cell 10;have q10:wr3.cell? ⟨w.heap.size+1,10,none⟩=some (.bool q.hasWill):=hPW.two.cell 10;have p11:wr3.cell? ⟨w.heap.size,11,none⟩=some (.string ⟨p.will.topic.toArray⟩):=hPW.one.cell 11;have q11:wr3.cell? ⟨w.heap.size+1,11,none⟩=some (.string ⟨q.will.topic.toArray⟩):=hPW.two.cell 11;have p12:wr3.cell? ⟨w.heap.size,12,none⟩=some (.string ⟨p.will.body.toArray⟩):=hPW.one.cell 12;have q12:wr3.cell? ⟨w.heap.size+1,12,none⟩=some (.string ⟨q.will.body.toArray⟩):=hPW.two.cell 12;have p13:wr3.cell? ⟨w.heap.size,13,none⟩=some (.int .i64 p.will.qos):=hPW.one.cell 13;have q13:wr3.cell? ⟨w.heap.size+1,13,none⟩=some (.int .i64 q.will.qos):=hPW.two.cell 13;have p14:wr3.cell? ⟨w.heap.size,14,none⟩=some (.bool p.will.retain):=hPW.one.cell 14;have q14:wr3.cell? ⟨w.heap.size+1,14,none⟩=some (.bool q.will.retain):=hPW.two.cell 14;have p15:wr3.cell? ⟨w.heap.size,15,none⟩=some (.bool p.hasUser):=hPW.one.cell 15;have q15:wr3.cell? ⟨w.heap.size+1,15,none⟩=some (.bool q.hasUser):=hPW.two.cell 15;have p16:wr3.cell? ⟨w.heap.size,16,none⟩=some (.bool p.hasPass):=hPW.one.cell 16;have q16:wr3.cell? ⟨w.heap.size+1,16,none⟩=some (.bool q.hasPass):=hPW.two.cell 16
       have p17:wr3.cell? ⟨w.heap.size,17,none⟩=some (.string ⟨p.user.toArray⟩):=hPW.one.cell 17;have q17:wr3.cell? ⟨w.heap.size+1,17,none⟩=some (.string ⟨q.user.toArray⟩):=hPW.two.cell 17;have p18:wr3.cell? ⟨w.heap.size,18,none⟩=some (.string ⟨p.pass.toArray⟩):=hPW.one.cell 18;have q18:wr3.cell? ⟨w.heap.size+1,18,none⟩=some (.string ⟨q.pass.toArray⟩):=hPW.two.cell 18;have p19:wr3.cell? ⟨w.heap.size,19,none⟩=some (.bool p.present):=hPW.one.cell 19;have q19:wr3.cell? ⟨w.heap.size+1,19,none⟩=some (.bool q.present):=hPW.two.cell 19;have p20:wr3.cell? ⟨w.heap.size,20,none⟩=some (.int .i64 p.code):=hPW.one.cell 20;have q20:wr3.cell? ⟨w.heap.size+1,20,none⟩=some (.int .i64 q.code):=hPW.two.cell 20;replace hPW:=hid hPW;have hbr:=hid hbr.out;clear hPW hPr HP HQ hb0 hmw hmc hmf;go_upto_region 18 with fail;go_cut [8]from 89 (fun s8 wx=>s8=.bool (decide (p.kind=q.kind)&&decide (p.dup=q.dup)&&decide (p.retain=q.retain)&&decide (p.qos=q.qos)&&decide (p.topic=q.topic)&&decide (p.body=q.body)&&decide (p.id=q.id))/\wr3=wx)
       case first=>
        go_wp2
        all_goals (go_meet;case rel=>refine⟨?_,rfl⟩;clear hbr heqw heqc heqf hiff;(first | (simp[*];done) | (simp[*];rfl)))
       case rest=>
        obtain⟨rfl,rfl⟩:=hcut;obtain⟨cA,hA⟩:=gen_of (decide (p.kind=q.kind)&&decide (p.dup=q.dup)&&decide (p.retain=q.retain)&&decide (p.qos=q.qos)&&decide (p.topic=q.topic)&&decide (p.body=q.body)&&decide (p.id=q.id));rw[hA];replace hA:=hid hA;go_upto_region 19 with fail;go_cut [9]from 136 (fun s9 wx=>s9=.bool (decide (p.client=q.client)&&decide (p.clean=q.clean)&&decide (p.keep=q.keep)&&decide (p.hasWill=q.hasWill)&&decide (p.will.topic=q.will.topic)&&decide (p.will.body=q.will.body)&&decide (p.will.qos=q.will.qos)&&decide (p.will.retain=q.will.retain))/\wr3=wx)
        case first=>
         go_wp2
         all_goals (go_meet;case rel=>refine⟨?_,rfl⟩;clear hbr heqw heqc heqf hiff hA;(first | (simp[*];done) | (simp[*];rfl)))
        case rest=>
         obtain⟨rfl,rfl⟩:=hcut;obtain⟨cB,hB⟩:=gen_of (decide (p.client=q.client)&&decide (p.clean=q.clean)&&decide (p.keep=q.keep)&&decide (p.hasWill=q.hasWill)&&decide (p.will.topic=q.will.topic)&&decide (p.will.body=q.will.body)&&decide (p.will.qos=q.will.qos)&&decide (p.will.retain=q.will.retain));rw[hB];replace hB:=hid hB;have hfl:Hid (P->cA=true/\cB=true/\p.hasUser=q.hasUser/\p.hasPass=q.hasPass/\p.user=q.user/\p.pass=q.pass/\p.present=q.present/\p.code=q.code):=hid fun e=>by
          have h9:=(hiff.1 e).flat
          unfold flatB at h9;simp only[Bool.and_eq_true,decide_eq_true_eq]at h9;rw[<-hA.out,<-hB.out];simp only[Bool.and_eq_true,decide_eq_true_eq];simp only[h9,and_self,true_and]
         have hlf:Hid (cA=true->cB=true->p.hasUser=q.hasUser->p.hasPass=q.hasPass->p.user=q.user->p.pass=q.pass->p.present=q.present->p.code=q.code->P):=hid fun e1 e2 e3 e4 e5 e6 e7 e8=>by refine hiff.2 ⟨heqw.out,heqc.out,heqf.out,?_⟩;have h1:=hA.trans e1;have h2:=hB.trans e2;simp only[Bool.and_eq_true,decide_eq_true_eq]at h1 h2;unfold flatB;simp only[Bool.and_eq_true,decide_eq_true_eq];simp only[h1,h2,e3,e4,e5,e6,e7,e8,and_self]
         clear hA hB hiff;cases cA with
         |false=>go_wp2;go_ret;exact Tells.no (fun e=>by have:=(hfl e).1;cases this) hbr.out
         | true=>
          cases cB with
          |false=>go_wp2;go_ret;exact Tells.no (fun e=>by have:=(hfl e).2.1;cases this) hbr.out
          | true=>
           go_wp2
           all_goals (go_ret;first
            | exact Tells.no (fun e=>by have h9:=hfl e;simp_all) hbr.out
            | (refine⟨_,rfl,?_,hbr.out⟩;exact⟨fun h=>hlf.out (by trivial) (by trivial) (by assumption) (by assumption) (by assumption) (by assumption) (by assumption) (by simpa using h),fun h=>by have h9:=hfl h;simp[h9]⟩))
   skip;have hno:Hid (¬P):=hid fun e=>by have e6:=(hiff.1 e).filters;have h7:=HP.lf.len;rw[e6,HQ.lf.len]at h7;exact hlf h7
   have dn:((h.f.n:Int)==(k.f.n:Int))=false:=by simpa using fun e=>hlf (by omega)
   go_enter func78,ntmps78;go_wp2_with fail
   go_ret;exact Tells.no hno.out hb0.out
  skip;have hno:Hid (¬P):=hid fun e=>by have e6:=(hiff.1 e).codes;have h7:=HP.lc.len;rw[e6,HQ.lc.len]at h7;exact hlc h7
  have dn:((h.c.n:Int)==(k.c.n:Int))=false:=by simpa using fun e=>hlc (by omega)
  go_enter func78,ntmps78;go_wp2_with fail
  go_ret;exact Tells.no hno.out hb0.out
 skip;have hno:Hid (¬P):=hid fun e=>by have e6:=(hiff.1 e).wants;have h7:=HP.lw.len;rw[e6,HQ.lw.len]at h7;exact hlw h7
 have dn:((h.w.n:Int)==(k.w.n:Int))=false:=by simpa using fun e=>hlw (by omega)
 go_enter func78,ntmps78;go_wp2_with fail
 go_ret;exact Tells.no hno.out hb0.out
def WriteDo(C:PkCode)(w0:World)(x:TnC):Prop:=∀c v,kindG c x.t.kind=some v->∃f1 c1 f2 c2 f3 c3 f4 c4,v=.agg #[fnV f1 c1,fnV f2 c2,fnV f3 c3,fnV f4 c4]/\fnC f3/\
 ∀W F p l,Below w0.heap.size w0 W->Wr W F p l->l.length<=65536->(∀b∈F,w0.heap.size<=b)->Calls prog f3 (#[.agg #[.pointer (some ⟨p,0,none⟩)],.agg x.cells.toArray]++c3) W (Puts F p l (partB C x.t) W)
theorem LsAt.ints(w:World)(zs:List Int)(T:TypeId)(h:zs.length<=1000):LsAt iCl 1 (w.alloc (.cells (zs.map fun z=>Value.int .i64 z).toArray T)) (some ⟨w.heap.size,0,none⟩) zs.length zs.length zs:=
 ⟨rfl,Nat.le_refl _,by unfold maxLen;omega,fun i x hx=>⟨w.heap.size,0,rfl,by simp,fun j v hj=>by
  have hb:Blk (w.alloc (.cells (zs.map fun z=>Value.int .i64 z).toArray T)) w.heap.size (zs.map fun z=>Value.int .i64 z).toArray T:=Blk.new _ _ _;rw[hb.cell];cases j with
  |zero=>
   have:v=.int .i64 x:=by simp[iCl]at hj;exact hj.symm
   subst this;simp[hx]
  | succ j=>simp[iCl]at hj⟩⟩
def headB(s:Sc):List UInt8:=(headL s.cf s.pages).flatMap (fun z=>numB 2 z.toNat)++txtB s.cf.secret
def preB(C:PkCode)(s:Sc)(k:Nat):List UInt8:=headB s++(s.ts.take k).flatMap (turnB C)
theorem preB_all(C:PkCode)(s:Sc):preB C s s.ts.length=rawS C s:=by unfold preB headB rawS;rw[List.take_length,List.append_assoc]
theorem preB_succ(C:PkCode)(s:Sc)(k:Nat)(t:Tn)(h:s.ts[k]?=some t):preB C s (k+1)=preB C s k++turnB C t:=by unfold preB;rw[List.take_add_one,h,List.flatMap_append,List.append_assoc];simp
theorem preB_le(C:PkCode)(s:Sc)(k:Nat):(preB C s k).length<=(rawS C s).length:=by
 rw[<-preB_all];unfold preB;rw[List.length_append,List.length_append,List.take_length];have:(s.ts.take k).flatMap (turnB C)++(s.ts.drop k).flatMap (turnB C)=s.ts.flatMap (turnB C):=by rw[<-List.flatMap_append,List.take_append_drop]
 rw[<-this,List.length_append];omega
structure RawE (C:PkCode)(s:Sc)(B:Nat)(w:World)(e:Ending)(w':World):Prop where
 below:Below B w w'
 out:((rawS C s).length<=65536/\∃v,e=.returned v/\w'.ownsRow B 5 1 v (rawS C s).length (bs (rawS C s)))\/(¬(rawS C s).length<=65536/\e=.panicked (given 3))
structure RwI (C:PkCode)(s:Sc)(w:World)(p q k:Nat)(W:World):Prop where
 out:∃F,Wr W F p (preB C s k)/\(∀b∈F,w.heap.size<=b)/\q∉F
 fit:(preB C s k).length<=65536
 below:Below w.heap.size w W
 box:Blk W q #[.pointer (some ⟨p,0,none⟩)] 102
theorem look_kd1{w:World}{m c:Nat}(h:IM .i64 w m (kindG c))(k:Int){v:Value}(hv:kindG c k=some v):(Instr.lookup 73 (.map (some m)) (.int .i64 k) false).run prog w=.ok v w:=by have h1:=run_lookup_im 73 44 71 underlying73 underlying44 h (.agg zKd) (by kernel_rfl) k false;rw[hv]at h1;exact h1
theorem field_kd(f1 f2 f3 f4:FuncId)(c1 c2 c3 c4:Array Value)(W:World):(Instr.field 71 (.agg #[fnV f1 c1,fnV f2 c2,fnV f3 c3,fnV f4 c4]) 2).run prog W=.ok (fnV f3 c3) W:=by kernel_rfl
theorem kindG_some{c:Nat}{k:Int}(h:1<=k/\k<=8):∃v,kindG c k=some v:=by
 cases e:kindG c k with
 | none=>exact absurd h (kindG_none e)
 | some v=>exact⟨v,rfl⟩
theorem sc_raw(C:PkCode)(s:ScC)(w:World)(hs:s.In w)(hr:rightS s.sc)(hk:∀x∈s.ts,WriteDo C w x):
  Calls prog 32 #[.agg s.cells.toArray] w (RawE C s.sc w.heap.size w):=by
 obtain⟨sv,hsv⟩:=gen_of s.cells.toArray;obtain⟨W0,hW0⟩:=gen_of (w.alloc (.cells sv 30));have hb0:Below w.heap.size w W0:=by rw[<-hW0];exact bel_refl.alloc nat_le_rfl _
 have b1:Blk W0 w.heap.size s.cells.toArray 30:=by rw[<-hW0,<-hsv];exact Blk.new _ _ _
 have hw0:W0.heap.size=w.heap.size+1:=by rw[<-hW0];simp
 have HL:=hs.t.len;have HS:=hid hs;have HRt:=hid hr;have HB0:=hid hb0;replace hk:=hid hk;clear hs hr;rw[hsv];replace hsv:=hid hsv;go_enter func32,ntmps32;replace hw0:=hid hw0;go_upto_region 2 with(go_at_call 79;refine(wire_NewWriter W0).mono ?_;rintro e w1 ⟨rfl,hWr,hb1⟩);have hb01:=hb0.trans (hb1.mono hb0.size);have hs1:=hb01.size;have hz1:W0.heap.size<w1.heap.size:=hWr.lt _ (List.mem_singleton.2 rfl);have hz0:w.heap.size<W0.heap.size:=by have:=hw0.out;omega
 obtain⟨w2,hw2⟩:=gen_of (w1.alloc (.cells #[.pointer (some ⟨W0.heap.size,0,none⟩)] 102));have hx2:Blk w2 w1.heap.size #[.pointer (some ⟨W0.heap.size,0,none⟩)] 102:=by rw[<-hw2];exact Blk.new _ _ _
 have hz2:w2.heap.size=w1.heap.size+1:=by rw[<-hw2];simp
 have hb2:Hid (Below w.heap.size w w2):=hid (by rw[<-hw2];exact hb01.alloc hs1 _);have hWr2:Hid (Wr w2 [W0.heap.size] W0.heap.size []):=hid (by rw[<-hw2];exact hWr.alloc _);have bx2:Blk w2 w.heap.size s.cells.toArray 30:=by rw[<-hw2];exact(b1.below hb1).alloc _
 rw[hw2];have m2:=bx2.mid [] s.cf.cl [.int .i64 s.pages,.slice s.ht.a s.ht.n s.ht.c] rfl;have hF0:Hid (∀b∈[W0.heap.size],w.heap.size<=b):=hid (fun b hb=>by simp at hb;omega);obtain⟨p,hp⟩:=gen_of W0.heap.size;obtain⟨q,hq⟩:=gen_of w1.heap.size;rw[hp]at hWr2 hx2 hF0 hz1 hz0 ⊢;rw[hq]at hx2 hz2 hz1 ⊢;replace hx2:=hid hx2;replace hz2:=hid hz2;clear hb1 hWr hb01 b1 hp hq hs1 hw0 hW0 hw2 hb0;go_upto_region 3 with(first
  | (refine wLm 27 rfl rfl m2 underlying27 ?_)
  | (refine wS 27 7 rfl _ _ s.cf.cl.toArray rfl rfl (Blk.new _ _ _) rfl rfl (by simp[CfV.cl,Value.oneCell']) ?_;intro w3 hw3 hr3))
 have hz3:w2.heap.size+1<=w3.heap.size:=by have:=hr3.size;simp at this;omega
 have s2:=hb2.size;have hb3:=hid ((hb2.alloc s2 _).trans (hr3.below (n₀:=w.heap.size) (by simp;omega) (by simp;omega)));have hWr3:=hid ((hWr2.alloc _).wrote hr3 (by have:=hz2.out;simp;omega));have hx3:=(hx2.alloc _).keepW hr3 (by have:=hz2.out;simp;omega);have bx3:=(bx2.alloc _).keepW hr3 (by have:=hz2.out;simp;omega);have k0:w3.cell? ⟨w2.heap.size,0,none⟩=some (.int .i64 s.cf.window):=hw3.cell 0;have k1:w3.cell? ⟨w2.heap.size,1,none⟩=some (.int .i64 s.cf.room):=hw3.cell 1;have k2:w3.cell? ⟨w2.heap.size,2,none⟩=some (.int .i64 s.cf.inbox):=hw3.cell 2;have k3:w3.cell? ⟨w2.heap.size,3,none⟩=some (.int .i64 s.cf.subs):=hw3.cell 3;have k4:w3.cell? ⟨w2.heap.size,4,none⟩=some (.int .i64 s.cf.sessions):=hw3.cell 4;have k5:w3.cell? ⟨w2.heap.size,5,none⟩=some (.int .i64 s.cf.retained):=hw3.cell 5;have k7:w3.cell? ⟨w.heap.size,7,none⟩=some (.int .i64 s.pages):=bx3.cell 7;obtain⟨w4,hw4⟩:=gen_of (w3.alloc (.cells #[.int .i64 s.cf.window,.int .i64 s.cf.room,.int .i64 s.cf.inbox,.int .i64 s.cf.subs,.int .i64 s.cf.sessions,.int .i64 s.cf.retained,.int .i64 s.pages] 3));have hfr:∀z∈headL s.cf s.pages,0<=z/\z<((256^2:Nat):Int):=by obtain⟨⟨a1,a2,a3,a4,a5,a6,a7⟩,a8, -, -⟩:=HRt.out;have e1:s.sc.cf=s.cf:=rfl;have e2:s.sc.pages=s.pages:=rfl;rw[e1]at a1 a2 a3 a4 a5 a6 a7;rw[e2]at a8;intro z hz;simp only[headL,List.mem_cons,List.not_mem_nil,or_false]at hz;have:((256^2:Nat):Int)=65536:=rfl;rw[this];rcases hz with rfl | rfl | rfl | rfl | rfl | rfl | rfl<;>omega
 have hb4:Hid (Below w.heap.size w w4):=hid (by rw[<-hw4];exact hb3.alloc hb3.size _);have hWr4:Wr w4 [p] p []:=by rw[<-hw4];exact hWr3.alloc _
 have hx4:Hid (Blk w4 q #[.pointer (some ⟨p,0,none⟩)] 102):=hid (by rw[<-hw4];exact hx3.alloc _);have bx4:Hid (Blk w4 w.heap.size s.cells.toArray 30):=hid (by rw[<-hw4];exact bx3.alloc _);have bc4:Hid (Blk w4 w2.heap.size s.cf.cl.toArray 27):=hid (by rw[<-hw4];exact hw3.alloc _);have hls:LsAt iCl 1 w4 (some ⟨w3.heap.size,0,none⟩) 7 7 (headL s.cf s.pages):=by rw[<-hw4];exact LsAt.ints w3 (headL s.cf s.pages) 3 (by simp[headL])
 have CN:=hid (sc_numbers hWr4 (by simp) 2 (by decide) (by decide) (headL s.cf s.pages) hfr (some ⟨w3.heap.size,0,none⟩) 7 7 hls (fun _ x hx hm=>by cases hx;simp at hm;have:=hz2.out;omega) (by decide));replace hz3:=hid hz3;clear hr3 hls hfr hWr4 bx3 hw3 m2 bx2 s2;go_wp2_with (refine wL 102 rfl rfl hx3 underlying102 ?_);refine CN.mono ?_;have hhl:Hid (((headL s.cf s.pages).flatMap fun z=>numB 2 z.toNat).length<=(rawS C s.sc).length):=hid (by have h1:=preB_le C s.sc 0;unfold preB headB at h1;rw[List.length_append,List.length_append]at h1;have e1:s.sc.cf=s.cf:=rfl;have e2:s.sc.pages=s.pages:=rfl;rw[e1,e2]at h1;omega)
 rintro e w5 ⟨F5,hs5,⟨hf5,rfl,hw5⟩ | ⟨hf5,rfl⟩⟩
 case inr=>refine⟨rfl,hb4.trans (hs5.wrote.below (n₀:=w.heap.size) hb4.size (by simp;omega)),.inr ⟨fun h=>?_,rfl⟩⟩;unfold fits at hf5;rw[decide_eq_false_iff_not,List.length_nil,Nat.zero_add]at hf5;have:=hhl.out;omega
 have hf5':((headL s.cf s.pages).flatMap fun z=>numB 2 z.toNat).length<=65536:=by unfold fits at hf5;rw[decide_eq_true_eq,List.length_nil,Nat.zero_add]at hf5;exact hf5
 rw[List.nil_append]at hw5;have hF5:Hid (∀b∈F5,w.heap.size<b):=hid (fun b hb=>by
  have:=hb4.size;have:=bx4.lt;rcases hs5.sub b hb with h | h
  ·simp at h;omega
  omega)
 have hq4:=hx4.lt;have hx5:=hx4.keepW hs5.wrote (by have:=hz2.out;simp;omega);have bx5:=bx4.keepW hs5.wrote (by simp;omega);have bc5:=bc4.keepW hs5.wrote (by have:=hz2.out;simp;omega);have hb5:=hid (hb4.trans (hs5.wrote.below (n₀:=w.heap.size) hb4.size (by simp;omega)));have hsl:s.cf.secret.length<=200:=HRt.1.2.2.2.2.2.2;have CT:=hid (sc_wtext hw5 hf5' s.cf.secret (by omega));have k6:w5.cell? ⟨w2.heap.size,6,none⟩=some (.string ⟨s.cf.secret.toArray⟩):=bc5.cell 6;have k8:w5.cell? ⟨w.heap.size,8,none⟩=some (.slice s.ht.a s.ht.n s.ht.c):=bx5.cell 8;have hq5:Hid (q∉F5):=hid (hs5.not (by have:=hz2.out;simp;omega) hq4);replace hsl:=hid hsl;clear hs5 hw5 hf5 hf5' hq4;go_wp2_with (refine wL 102 rfl rfl hx5 underlying102 ?_);refine CT.mono ?_;have hhl2:Hid ((headB s.sc).length<=(rawS C s.sc).length):=hid (by have h1:=preB_le C s.sc 0;unfold preB at h1;rw[List.length_append]at h1;omega)
 have e1:Hid (((headL s.cf s.pages).flatMap fun z=>numB 2 z.toNat)++txtB s.cf.secret=headB s.sc):=hid rfl;rintro e w6 ⟨F6,hs6,⟨⟨_,hf6⟩,rfl,hw6⟩ | ⟨hf6,rfl⟩⟩
 case inr=>refine⟨rfl,hb5.trans (hs6.wrote.below (n₀:=w.heap.size) hb5.size (fun b hb=>Nat.le_of_lt (hF5 b hb))),.inr ⟨fun h=>hf6 ⟨by have:=hsl.out;omega,?_⟩,rfl⟩⟩;unfold fits;rw[decide_eq_true_eq,<-List.length_append,e1];have:=hhl2.out;omega
 have hfit0:Hid ((headB s.sc).length<=65536):=hid (by unfold fits at hf6;rw[decide_eq_true_eq,<-List.length_append,e1]at hf6;exact hf6)
 rw[e1]at hw6;have hF6:Hid (∀b∈F6,w.heap.size<b):=hid (fun b hb=>by
  have:=hb5.size;have:=bx5.lt;rcases hs6.sub b hb with h | h
  ·exact hF5 b h
  omega)
 have hx6:=hx5.keepW hs6.wrote hq5.out;have hq6:Hid (q∉F6):=hid (hs6.not hq5.out hx5.lt);have hb6:=hid (hb5.trans (hs6.wrote.below (n₀:=w.heap.size) hb5.size (fun b hb=>Nat.le_of_lt (hF5 b hb))));have e0:preB C s.sc 0=headB s.sc:=by unfold preB;simp
 rw[<-e0]at hw6 hfit0;have hR0:Hid (RwI C s.sc w p q 0 w6):=hid ⟨⟨F6,hw6,fun b hb=>Nat.le_of_lt (hF6 b hb),hq6.out⟩,hfit0.out,hb6.out,hx6⟩;have bx6:=bx5.keepW hs6.wrote (fun h=>by have:=hF5 _ h;omega);have k8':w6.cell? ⟨w.heap.size,8,none⟩=some (.slice s.ht.a s.ht.n s.ht.c):=bx6.cell 8;obtain⟨n,hn⟩:=gen_of s.ht.n;obtain⟨sa,hsa⟩:=gen_of s.ht.a;obtain⟨sc,hsc⟩:=gen_of s.ht.c;rw[hn,hsa,hsc]at k8';have HN:=hid (show s.ts.length=n by rw[HL,hn]);have HS1:=hid (HS.t);rw[hn,hsa,hsc]at HS1;have hn2:n<=2000:=by have:=HRt.2.2.1;have e:s.sc.ts.length=s.ts.length:=(by unfold ScC.sc;simp);rw[e,HN.out]at this;exact this
 clear hsa hsc hn HL hs6 hw6 hf6 hx6 bx6 hx5 bx5 bc5 k8 k6 e0;go_wp2_with fail;go_loopw [39] (fun i wr=>∃k:Nat,i=.int .i64 k/\k<=n/\Hid (RwI C s.sc w p q k wr)) (fun i _=>n-(intOf i).toNat)
 case atStart=>exact⟨0,rfl,Nat.zero_le _,hR0⟩
 case round=>
  obtain⟨k,rfl,hk1,hI⟩:=hrel;rcases Nat.lt_or_ge k n with hlt | hge
  ·obtain⟨x,hx⟩:∃x,s.ts[k]?=some x:=⟨_,List.getElem?_eq_getElem (by rw[HN.out];exact hlt)⟩;obtain⟨g1,o1,ha1,hr1⟩:=HS1.range hx;have hc1:=hr1 _ hI.out.below;subst ha1;have hxm:=List.mem_of_getElem? hx;have hrt:rightT x.t:=HRt.2.2.2 _ (show x.t∈s.ts.map TnC.t from List.mem_map_of_mem hxm);have hdo:=hid (hk x hxm);have hst:s.sc.ts[k]?=some x.t:=by(show(s.ts.map TnC.t)[k]?=_);rw[List.getElem?_map,hx];rfl
   have hpre:=hid (preB_succ C s.sc k x.t hst);have hple:=hid (preB_le C s.sc (k+1));have ox:=hid (Tn.one x.t x.h x.hp);obtain⟨kd,hkd⟩:=gen_of x.t.kind;obtain⟨cn,hcn⟩:=gen_of x.t.conn;have hkb:=rightT_kind hrt;have hcb:=rightT_conn hrt;rw[hkd]at hkb;rw[hcn]at hcb;have htb:Hid (turnB C x.t=numB 1 kd.toNat++(numB 2 cn.toNat++partB C x.t)):=hid (by unfold turnB;rw[hkd,hcn]);obtain⟨xc,hxc⟩:=gen_of x.cells;have sx:xc.toArray.size=30:=by rw[<-hxc];rfl
   have ox:Hid (∀v∈xc.toArray.toList,v.oneCell'=true):=hid (by rw[<-hxc];exact ox.out);rw[hxc]at hc1;replace sx:=hid sx;have kc:Hid (∀W b,Blk W b xc.toArray 55->W.cell? ⟨b,0,none⟩=some (.int .i64 kd)/\W.cell? ⟨b,1,none⟩=some (.int .i64 cn)):=hid fun W b hb=>by rw[hb.cell,hb.cell,<-hxc,<-hkd,<-hcn];exact⟨rfl,rfl⟩
   have ix:(prog.info? 55).map (·.size)=some xc.toArray.size:=by rw[sx.out];exact(by kernel_rfl:(prog.info? 55).map (·.size)=some 30)
   replace hkd:=hid hkd;replace hxc:=hid hxc;replace hkb:=hid hkb;replace hcb:=hid hcb;clear hr1 hrt hst hxm hx hcn;have hb0:=hI.out.below.size;go_upto_region 8 with(first
    | (refine wLm 55 rfl rfl hc1 underlying55 ?_ rfl rfl (by rw[<-hxc.out];kernel_rfl))
    | (refine wS 55 30 rfl _ _ _ rfl rfl (Blk.new _ _ _) sx.out rfl ox.out ?_;intro w7 hw7 hr7))
   obtain⟨F,hW,hF,hqF⟩:=hI.out.out;have hF2:∀b∈F,b<wr.heap.size:=hW.lt;have hb7:=hid ((hI.out.below.alloc hb0 _).trans (hr7.below (by simp;omega) (by simp;omega)));have hW7:=(hW.alloc _).wrote hr7 (fun b hb=>by have:=hF2 b hb;simp;omega);have hx7:=(hI.out.box.alloc _).keepW hr7 (by have:=hI.out.box.lt;simp;omega);obtain⟨kk0, -⟩:=kc _ _ hw7;have hs7:=hb7.size;have hlt7:wr.heap.size<w7.heap.size:=hw7.lt;have hF7:∀b∈F,b<w7.heap.size:=fun b hb=>by have:=hF2 b hb;omega
   have C1:=hid (sc_numbers (h:=hW7.alloc (.cells #[.int .i64 kd] 3)) hI.out.fit 1 (by decide) (by decide) [kd] (by intro z hz;simp at hz;subst hz;simp;have:=hkb.out;omega) (some ⟨w7.heap.size,0,none⟩) 1 1 (LsAt.one w7 kd 3) (fun _ x hx hm=>by cases hx;have:=hF7 _ hm;simp at this) (by decide));have ht8:=hid (hw7.alloc (.cells #[.int .i64 kd] 3));have hx8:=hid (hx7.alloc (.cells #[.int .i64 kd] 3));have hb8:=hid (hb7.alloc hs7 (.cells #[.int .i64 kd] 3));have hqF:=hid hqF;have hF:=hid hF;have hF2:=hid hF2;clear hW hW7 hr7 hc1 hb7 hw7;go_wp2_with (refine wL 102 rfl rfl hx7 underlying102 ?_);refine C1.mono ?_;clear C1;rintro e w9 ⟨F9,hs9,hw9⟩;rw[List.flatMap_cons,List.flatMap_nil,List.append_nil]at hw9;have hb9:=hid (hb8.trans (hs9.wrote.below (n₀:=w.heap.size) hb8.size hF.out));have hno:Hid (∀m r,fits (preB C s.sc k) m=false->turnB C x.t=m++r->¬(rawS C s.sc).length<=65536):=hid (fun m r h1 h2 h3=>by have h4:=hple.out;rw[hpre.out,h2,List.length_append,List.length_append]at h4;unfold fits at h1;rw[decide_eq_false_iff_not]at h1;omega)
   rcases hw9 with⟨hf9,rfl,hw9⟩ | ⟨hf9,rfl⟩
   case inr=>exact⟨rfl,hb9.out,.inr ⟨hno _ _ hf9 htb.out,rfl⟩⟩
   have hF9:Hid (∀b∈F9,w.heap.size<=b):=hid (fun b hb=>by
    rcases hs9.sub b hb with h | h
    ·exact hF b h
    have:=hb8.size;omega)
   have ht9:=ht8.keepW hs9.wrote (fun h=>by have:=hF2 _ h;omega);have hx9:=hx8.keepW hs9.wrote hqF.out;have hq9:Hid (q∉F9):=hid (hs9.not hqF.out hx8.lt);have ht9n:Hid (wr.heap.size∉F9):=hid (hs9.not (fun h=>by have:=hF2 _ h;omega) ht8.lt);obtain⟨-,kk1⟩:=kc _ _ ht9;have hf9':(preB C s.sc k++numB 1 kd.toNat).length<=65536:=by unfold fits at hf9;rw[decide_eq_true_eq]at hf9;rw[List.length_append];exact hf9
   have hF9l:=hw9.lt;have C2:=hid (sc_numbers (h:=hw9.alloc (.cells #[.int .i64 cn] 3)) hf9' 2 (by decide) (by decide) [cn] (by intro z hz;simp at hz;subst hz;have:=hcb.out;simp;omega) (some ⟨w9.heap.size,0,none⟩) 1 1 (LsAt.one w9 cn 3) (fun _ x hx hm=>by cases hx;have:=hF9l _ hm;simp at this) (by decide));have ht10:=hid (ht9.alloc (.cells #[.int .i64 cn] 3));have hx10:=hid (hx9.alloc (.cells #[.int .i64 cn] 3));have hb10:=hid (hb9.alloc hb9.size (.cells #[.int .i64 cn] 3));replace hf9:=hid hf9;replace hf9':=hid hf9';replace ht9:=hid ht9;clear hw9 hs9 hF9l kk0 hx7;go_wp2_with (refine wL 102 rfl rfl hx9 underlying102 ?_);refine C2.mono ?_;clear C2;rintro e w11 ⟨F11,hs11,hw11⟩;rw[List.flatMap_cons,List.flatMap_nil,List.append_nil]at hw11;have hb11:=hid (hb10.trans (hs11.wrote.below (n₀:=w.heap.size) hb10.size hF9.out));have hfa:Hid (fits (preB C s.sc k) (numB 1 kd.toNat++numB 2 cn.toNat)=fits (preB C s.sc k++numB 1 kd.toNat) (numB 2 cn.toNat)):=hid (by rw[fits_app,hf9.out,Bool.true_and]);rcases hw11 with⟨hf11,rfl,hw11⟩ | ⟨hf11,rfl⟩
   case inr=>exact⟨rfl,hb11.out,.inr ⟨hno (numB 1 kd.toNat++numB 2 cn.toNat) (partB C x.t) (by rw[hfa];exact hf11) (by rw[htb,List.append_assoc]),rfl⟩⟩
   rw[List.append_assoc]at hw11;have hF11:Hid (∀b∈F11,w.heap.size<=b):=hid (fun b hb=>by
    rcases hs11.sub b hb with h | h
    ·exact hF9 b h
    have:=hb10.size;omega)
   have ht11:=ht10.keepW hs11.wrote ht9n.out;have hx11:=hx10.keepW hs11.wrote hq9.out;have hq11:Hid (q∉F11):=hid (hs11.not hq9.out hx10.lt);have hs11n:Hid (wr.heap.size∉F11):=hid (hs11.not ht9n.out ht10.lt);have hfit11:Hid ((preB C s.sc k++(numB 1 kd.toNat++numB 2 cn.toNat)).length<=65536):=hid (by rw[<-hfa]at hf11;unfold fits at hf11;rw[decide_eq_true_eq]at hf11;rw[List.length_append];exact hf11)
   replace hf11:=hid hf11;replace hw11:=hid hw11;clear hs11 kk1 hx9;go_wp2_with fail;refine regionP [(1000,fun w'=>Blk w' wr.heap.size xc.toArray 55),(1000,fun w'=>Blk w' q #[.pointer (some ⟨p,0,none⟩)] 102)] ?_ (by kernel_rfl) ⟨ht11,hx11,trivial⟩ fun KQ hKQ=>?_
   ·intro c a d v w h;cases d<;>exact h
   try simp only[PT]
   have tD:Blk w11.drew wr.heap.size xc.toArray 55:=ht11;have xD:Blk w11.drew q #[.pointer (some ⟨p,0,none⟩)] 102:=hx11;have bD:=hb11.drew;have wD:Hid (Wr w11.drew F11 p _):=hid (hw11.below ((Below.refl _ w11).drew));have zD:w11.drew.heap.size=w11.heap.size:=rfl;obtain⟨WD,hWD⟩:=gen_of w11.drew;rw[hWD]at tD xD bD wD ⊢;refine tQ [1] ?_;refine loadQ 2 rfl (by kernel_rfl) (by kernel_rfl) rfl rfl 0 rfl (by kernel_rfl) (.int .i64 kd) (fun w' hf=>by(have k0:=(kc _ _ hf).1;go_simp<;>with_reducible rfl)) ?_;simp only[PT];refine loadQ 5 rfl (by kernel_rfl) (by kernel_rfl) rfl rfl 1 rfl (by kernel_rfl) (.agg #[.pointer (some ⟨p,0,none⟩)]) (fun w' hf=>by(exact run_load_blk hf 102 underlying102 rfl (by kernel_rfl))) ?_;simp only[PT];refine loadQ 6 rfl (by kernel_rfl) (by kernel_rfl) rfl rfl 0 rfl (by kernel_rfl) (.agg xc.toArray) (fun w' hf=>by(exact run_load_blk hf 55 underlying55 rfl ix)) ?_;simp only[PT];refine sQ 0 fun K hK=>?_;simp only[GO];go_simp;refine(sc_kinds _).mono ?_;rintro e w12 ⟨m,c,rfl,hm,hc,hb12⟩;have ht12:=tD.below hb12;have hx12:=xD.below hb12;refine hK _ _ ⟨⟨fun _=>ht12,fun _=>hx12,trivial⟩,?_⟩;clear hK K;try simp only[PT]
   refine atR_more [(1000,fun w'=>Blk w' wr.heap.size xc.toArray 55),(1000,fun w'=>Blk w' q #[.pointer (some ⟨p,0,none⟩)] 102),(7,fun w'=>IM .i64 w' m (kindG c))] (by simp) ⟨fun _=>ht12,fun _=>hx12,fun _=>hm,trivial⟩ ?_;obtain⟨v,hv⟩:=kindG_some (c:=c) hkb.out;obtain⟨f1,c1,f2,c2,f3,c3,f4,c4,hvv,hf3,hwr⟩:=hdo c v (by rw[hkd.out];exact hv);refine lookT 3 rfl (by kernel_rfl) (by kernel_rfl) rfl rfl rfl 2 rfl (by kernel_rfl) v (fun w' hf=>look_kd1 hf kd hv) ?_;subst hvv;try simp only[PT]
   refine readQ 4 rfl (by kernel_rfl) (fnV f3 c3) (by kernel_rfl) (fun w' _=>by(have hfl:=field_kd f1 f2 f3 f4 c1 c2 c3 c4;go_simp)) ?_;try simp only[PT]
   have hl12:=hid (bD.trans (hb12.mono bD.size));have CW:=hwr w12 F11 p _ hl12.out (wD.below hb12) hfit11.out hF11.out;rw[hxc.out]at CW;unfold fnC at hf3;clear hwr;refine sQ 7 fun K hK=>?_;simp only[GO];simp only[fnV];go_simp;refine CW.mono ?_;rintro e w13 ⟨F13,hs13,hw13⟩;have hb13:=hid (hl12.trans (hs13.wrote.below (n₀:=w.heap.size) hl12.size hF11.out));have hfa13:Hid (fits (preB C s.sc k) (turnB C x.t)=fits (preB C s.sc k++(numB 1 kd.toNat++numB 2 cn.toNat)) (partB C x.t)):=hid (by rw[htb,<-List.append_assoc,fits_app,hfa,hf11.out,Bool.true_and]);rcases hw13 with⟨hf13,rfl,hw13⟩ | ⟨hf13,rfl⟩
   case inr=>refine hKQ.out _ _ _ ?_;exact⟨rfl,hb13.out,.inr ⟨hno _ [] (by rw[hfa13];exact hf13) (by rw[List.append_nil]),rfl⟩⟩
   have hx13:=hx12.keepW hs13.wrote hq11.out;have hF13:∀b∈F13,w.heap.size<=b:=fun b hb=>by
    rcases hs13.sub b hb with h | h
    ·exact hF11 b h
    have:=hl12.size;omega
   have hq13:q∉F13:=hs13.not hq11.out hx12.lt;rw[List.append_assoc,List.append_assoc,<-htb,<-hpre.out]at hw13;have hfit13:(preB C s.sc (k+1)).length<=65536:=by rw[<-hfa13]at hf13;unfold fits at hf13;rw[decide_eq_true_eq]at hf13;rw[hpre.out,List.length_append];exact hf13
   have HR:=hid (show RwI C s.sc w p q (k+1) w13 from⟨⟨F13,hw13,hF13,hq13⟩,hfit13,hb13.out,hx13⟩);have ht13:=ht12.keepW hs13.wrote (hs11n.out);refine hK _ _ ⟨⟨fun _=>ht13,fun _=>hx13,fun h=>by simp at h,trivial⟩,?_⟩;clear hK K;try simp only[PT]
   refine dQ (hKQ.out _ _ _ ?_);clear hKQ KQ;go_wp2_with fail;go_roundw
   case rel=>exact⟨k+1,by go_num,by omega,HR⟩
   case measure=>simp[intOf];omega
  obtain rfl:k=n:=by omega
  obtain⟨F,hW,hF,hqF⟩:=hI.out.out;have kq:wr.cell? ⟨q,0,none⟩=some (.pointer (some ⟨p,0,none⟩)):=hI.out.box.cell 0;have hall:preB C s.sc k=rawS C s.sc:=by rw[<-preB_all,show s.sc.ts.length=k by(show(s.ts.map TnC.t).length=k);rw[List.length_map,HN.out]]
  have hfit:=hI.out.fit;rw[hall]at hW hfit;have CB:=hid (wire_Bytes hW hfit);replace hfit:=hid hfit;replace hF:=hid hF;clear hW hall;go_wp2_with fail;refine CB.mono ?_;rintro e w9 ⟨v,rfl,hv,hb9⟩;have hs9:=hI.out.below.size;have H:=hid (show RawE C s.sc w.heap.size w (.returned v) w9 from⟨hI.out.below.trans (hb9.mono hs9),.inl ⟨hfit.out,v,rfl,ownsRow_mono hv hs9⟩⟩);clear hv hb9;go_wp2_with fail;go_ret;exact H.out
theorem r28_SameTurn(x y:TnC)(w:World)(hx:x.t.In w x.h x.hp)(hy:y.t.In w y.h y.hp):
  Calls prog 30 #[.agg x.cells.toArray,.agg y.cells.toArray] w (Tells (x.t=y.t) w):=by
 have hiff:=Tn.same_iff x.t y.t;obtain⟨P,hP⟩:=gen_of ((x.t=y.t):Prop);rw[hP]at hiff ⊢;clear hP;replace hiff:=hid hiff;obtain⟨⟨tk,tc,tp,tb,ta,tn,ti⟩,th,thp⟩:=x;obtain⟨⟨uk,uc,up,ub,ua,un,ui⟩,uh,uhp⟩:=y;dsimp only at*
 have HX:=hid hx;have HY:=hid hy;obtain⟨xv,hxv⟩:=gen_of ((TnC.cells ⟨⟨tk,tc,tp,tb,ta,tn,ti⟩,th,thp⟩).toArray);obtain⟨yv,hyv⟩:=gen_of ((TnC.cells ⟨⟨uk,uc,up,ub,ua,un,ui⟩,uh,uhp⟩).toArray);obtain⟨W0,hW0⟩:=gen_of ((w.alloc (.cells xv 55)).alloc (.cells yv 55));have hb0:Below w.heap.size w W0:=by rw[<-hW0];exact(bel_refl.alloc nat_le_rfl _).alloc (by simp) _
 have hT0:TB w.heap.size ⟨⟨tk,tc,tp,tb,ta,tn,ti⟩,th,thp⟩ ⟨⟨uk,uc,up,ub,ua,un,ui⟩,uh,uhp⟩ W0:=by rw[<-hW0,<-hxv,<-hyv];refine⟨(Blk.new _ _ _).alloc _,?_⟩;have:=Blk.new (w.alloc (.cells (TnC.cells ⟨⟨tk,tc,tp,tb,ta,tn,ti⟩,th,thp⟩).toArray 55)) (TnC.cells ⟨⟨uk,uc,up,ub,ua,un,ui⟩,uh,uhp⟩).toArray 55;simpa using this
 have k0:W0.cell? ⟨w.heap.size,0,none⟩=some (.int .i64 tk):=hT0.one.cell 0;have j0:W0.cell? ⟨w.heap.size+1,0,none⟩=some (.int .i64 uk):=hT0.two.cell 0;have k1:W0.cell? ⟨w.heap.size,1,none⟩=some (.int .i64 tc):=hT0.one.cell 1;have j1:W0.cell? ⟨w.heap.size+1,1,none⟩=some (.int .i64 uc):=hT0.two.cell 1;have k26:W0.cell? ⟨w.heap.size,26,none⟩=some (.string ⟨tb.toArray⟩):=hT0.one.cell 26;have j26:W0.cell? ⟨w.heap.size+1,26,none⟩=some (.string ⟨ub.toArray⟩):=hT0.two.cell 26;have k27:W0.cell? ⟨w.heap.size,27,none⟩=some (.int .i64 ta):=hT0.one.cell 27;have j27:W0.cell? ⟨w.heap.size+1,27,none⟩=some (.int .i64 ua):=hT0.two.cell 27;have k28:W0.cell? ⟨w.heap.size,28,none⟩=some (.int .i64 tn):=hT0.one.cell 28;have j28:W0.cell? ⟨w.heap.size+1,28,none⟩=some (.int .i64 un):=hT0.two.cell 28;have k29:W0.cell? ⟨w.heap.size,29,none⟩=some (.slice thp.a thp.n thp.c):=hT0.one.cell 29;have j29:W0.cell? ⟨w.heap.size+1,29,none⟩=some (.slice uhp.a uhp.n uhp.c):=hT0.two.cell 29;have hb0:=hid hb0;have hT0:=hid hT0;rw[hxv,hyv];replace hxv:=hid hxv;replace hyv:=hid hyv;by_cases h0:tk=uk
 ·subst h0;by_cases h1:tc=uc
  ·subst h1;by_cases h2:tb=ub
   ·subst h2;by_cases h3:ta=ua
    ·subst h3;by_cases h4:tn=un
     ·subst h4;go_enter func30,ntmps30;go_wp2_with fail
      refine(r28_SamePicks (HX.p.below hb0.out) (HY.p.below hb0.out)).mono ?_;rintro e w1 ⟨b1,rfl,hb1,hbel1⟩;have hT1:=hT0.below hbel1;have hL1:=hid (hb0.trans (hbel1.mono hb0.size));replace hb1:=hid hb1;clear k0 k1 j0 j1 k26 k27 k28 k29 j26 j27 j28 j29 hbel1;have hm1:=hT1.one.mid [.int .i64 tk,.int .i64 tc] (tp.cells th) [.string ⟨tb.toArray⟩,.int .i64 ta,.int .i64 tn,.slice thp.a thp.n thp.c] rfl;have hm2:=hT1.two.mid [.int .i64 tk,.int .i64 tc] (up.cells uh) [.string ⟨tb.toArray⟩,.int .i64 ta,.int .i64 tn,.slice uhp.a uhp.n uhp.c] rfl;replace hT1:=hid hT1;cases b1 with
      |false=>
       have hno:Hid (¬P):=hid fun e=>by have:=hb1.2 (hiff.1 e).2.2.2.2.2.2;cases this
       go_wp2;go_ret;exact Tells.no hno.out hL1.out
      | true=>
       go_wp2_with (first
        | (refine wLmG 52 rfl rfl hm1 underlying52 ?_)
        | (refine wLmG 52 rfl rfl hm2 underlying52 ?_))
       refine(r16_Same tp th up uh w1 (HX.pk.below hL1.out) (HY.pk.below hL1.out)).mono ?_;rintro e w2 ⟨b2,rfl,hb2,hbel2⟩;have hL2:=hid (hL1.trans (hbel2.mono hL1.size));replace hb2:=hid hb2;clear hbel2;go_wp2_with fail;go_ret;refine⟨b2,rfl,?_,hL2.out⟩;rw[hb2.out,hiff.out];constructor
       ·intro h5;exact⟨by trivial,by trivial,h5,by trivial,by trivial,by trivial,by simpa using hb1.out⟩
       exact fun h5=>h5.2.2.1
     have dn:(tn==un)=false:=by simpa using h4
     have hno:Hid (¬P):=hid fun e=>h4 (hiff.1 e).2.2.2.2.2.1;replace h4:=hid h4;go_enter func30,ntmps30;go_wp2;go_ret;exact Tells.no hno.out hb0.out
    have dn:(ta==ua)=false:=by simpa using h3
    have hno:Hid (¬P):=hid fun e=>h3 (hiff.1 e).2.2.2.2.1;replace h3:=hid h3;go_enter func30,ntmps30;go_wp2;go_ret;exact Tells.no hno.out hb0.out
   have dn:(tb==ub)=false:=by simpa using h2
   have hno:Hid (¬P):=hid fun e=>h2 (hiff.1 e).2.2.2.1;replace h2:=hid h2;go_enter func30,ntmps30;go_wp2;go_ret;exact Tells.no hno.out hb0.out
  have dn:(tc==uc)=false:=by simpa using h1
  have hno:Hid (¬P):=hid fun e=>h1 (hiff.1 e).2.1;replace h1:=hid h1;go_enter func30,ntmps30;go_wp2;go_ret;exact Tells.no hno.out hb0.out
 have dn:(tk==uk)=false:=by simpa using h0
 have hno:Hid (¬P):=hid fun e=>h0 (hiff.1 e).1;replace h0:=hid h0;go_enter func30,ntmps30;go_wp2;go_ret;exact Tells.no hno.out hb0.out
theorem map_eq_iff{α β:Type}(f:α->β)(xs ys:List α)(h:xs.length=ys.length):xs.map f=ys.map f↔∀(j:Nat) x y,xs[j]?=some x->ys[j]?=some y->f x=f y:=by
 constructor
 ·intro e j x y hx hy;have h1:(xs.map f)[j]?=some (f x):=by rw[List.getElem?_map,hx];rfl
  have h2:(ys.map f)[j]?=some (f y):=by rw[List.getElem?_map,hy];rfl
  rw[e,h2]at h1;exact(Option.some.inj h1).symm
 intro hall;apply List.ext_getElem?;intro j;rw[List.getElem?_map,List.getElem?_map];rcases Nat.lt_or_ge j xs.length with hj | hj
 ·rw[List.getElem?_eq_getElem hj,List.getElem?_eq_getElem (by omega)];exact congrArg some (hall j _ _ (List.getElem?_eq_getElem hj) (List.getElem?_eq_getElem (by omega)))
 rw[List.getElem?_eq_none hj,List.getElem?_eq_none (by omega)]
theorem sc_EqualFunc{w:World}{a1 a2:Option Addr}{n1 n2 c1 c2:Nat}{xs ys:List TnC}(h1:LsAt TnC.cells 30 w a1 n1 c1 xs)(h2:LsAt TnC.cells 30 w a2 n2 c2 ys)(e1:∀x∈xs,x.t.In w x.h x.hp)(e2:∀x∈ys,x.t.In w x.h x.hp):
  Calls prog 33 #[.slice a1 n1 c1,.slice a2 n2 c2,.func (.func 34) #[] #[]] w (Tells (xs.map TnC.t=ys.map TnC.t) w):=by
 have hn1:=hid h1.len;have hn2:=hid h2.len;have V1:=hid h1;have V2:=hid h2;have E1:=hid e1;have E2:=hid e2;have hm:n1<=9223372036854775807:=by have:=h1.le;have:=h1.max;unfold maxLen at this;omega
 obtain⟨P,hP⟩:=gen_of ((xs.map TnC.t=ys.map TnC.t):Prop);rw[hP];replace hP:=hid hP;clear h1 h2 e1 e2;have he:=enters_of func34 (by kernel_rfl) rfl;by_cases hne:n1=n2
 ·subst hne;have hiff:=hid (map_eq_iff TnC.t xs ys (by rw[hn1.out,hn2.out]));go_enter func33,ntmps33;go_wp2_with fail
  go_loopw [17] (fun i wr=>∃k:Nat,i=.int .i64 k/\k<=n1/\Hid (Below w.heap.size w wr)/\Hid (∀j x y,j<k->xs[j]?=some x->ys[j]?=some y->x.t=y.t)) (fun i _=>n1-(intOf i).toNat)
  case atStart=>exact⟨0,rfl,Nat.zero_le _,hid bel_refl,hid fun j x y h=>absurd h (by omega)⟩
  case round=>
   obtain⟨k,rfl,hk1,hbr,hall⟩:=hrel;rcases Nat.lt_or_ge k n1 with hlt | hge
   ·obtain⟨x,hx⟩:∃x,xs[k]?=some x:=⟨_,List.getElem?_eq_getElem (by rw[hn1.out];omega)⟩;obtain⟨y,hy⟩:∃y,ys[k]?=some y:=⟨_,List.getElem?_eq_getElem (by rw[hn2.out];omega)⟩;obtain⟨g1,o1,ha1,hr1⟩:=V1.range hx;obtain⟨g2,o2,ha2,hr2⟩:=V2.range hy;have hc1:=hr1 _ hbr.out;subst ha1;subst ha2;have HR2:=hid hr2;have hx1:=hid (E1 x (List.mem_of_getElem? hx));have hy1:=hid (E2 y (List.mem_of_getElem? hy));have ox:=hid (Tn.one x.t x.h x.hp);have oy:=hid (Tn.one y.t y.h y.hp);replace hx:=hid hx;replace hy:=hid hy;obtain⟨xc,hxc⟩:=gen_of x.cells;obtain⟨yc,hyc⟩:=gen_of y.cells;have sx:xc.toArray.size=30:=by rw[<-hxc];rfl
    have sy:yc.toArray.size=30:=by rw[<-hyc];rfl
    have ox:Hid (∀v∈xc.toArray.toList,v.oneCell'=true):=hid (by rw[<-hxc];exact ox.out);have oy:Hid (∀v∈yc.toArray.toList,v.oneCell'=true):=hid (by rw[<-hyc];exact oy.out);rw[hxc]at hc1;replace sx:=hid sx;replace sy:=hid sy;clear hr1 hr2;have hb0:=hbr.out.size;go_upto_region 6 with(first
     | (refine wLm 55 rfl rfl hc1 underlying55 ?_ rfl rfl (by rw[<-hxc];kernel_rfl))
     | (refine wS 55 30 rfl _ _ _ rfl rfl (Blk.new _ _ _) sx.out rfl ox.out ?_;intro w5 hw5 hr5))
    have hb5:Below w.heap.size w w5:=(hbr.out.alloc hb0 _).trans (hr5.below (by simp;omega) (by simp;omega));have hc2:=HR2 w5 hb5;rw[hyc]at hc2;have hs5:=hb5.size;have HB5:=hid hb5;have HW5:=hid hw5;have hz5:wr.heap.size+1<=w5.heap.size:=by have:=hr5.size;simp at this;omega
    clear hb5 hw5 hr5 hc1;go_upto_region 7 with(first
     | (refine wLm 55 rfl rfl hc2 underlying55 ?_ rfl rfl (by rw[<-hyc];kernel_rfl))
     | (refine wS 55 30 rfl _ _ _ rfl rfl (Blk.new _ _ _) sy.out rfl oy.out ?_;intro w6 hw6 hr6))
    have hb6:Below w.heap.size w w6:=(HB5.alloc hs5 _).trans (hr6.below (by simp;omega) (by simp;omega));have hx6:Blk w6 wr.heap.size xc.toArray 55:=(HW5.alloc _).keepW hr6 (by simp;omega);have HB6:=hid hb6;have CS:=hid (sc_same x y w6 (hx1.below hb6) (hy1.below hb6));rw[hxc,hyc]at CS;have ix:(prog.info? 55).map (·.size)=some xc.toArray.size:=by rw[sx.out];exact(by kernel_rfl:(prog.info? 55).map (·.size)=some 30)
    have iy:(prog.info? 55).map (·.size)=some yc.toArray.size:=by rw[sy.out];exact(by kernel_rfl:(prog.info? 55).map (·.size)=some 30)
    clear hb6 hr6 hc2;go_wp2_with (first
     | (refine wL 55 rfl rfl hx6 underlying55 ?_ rfl rfl ix)
     | (refine wL 55 rfl rfl hw6 underlying55 ?_ rfl rfl iy))
    refine CS.mono ?_;rintro e w7 ⟨b,rfl,hb,hb7⟩;have HB7:=hid (HB6.trans (hb7.mono HB6.size));replace hb:=hid hb;clear hb7;cases b with
    |false=>
     go_wp2_with fail
     go_ret;refine Tells.no (fun e=>?_) HB7.out;rw[<-hP.out,hiff.out]at e;have h7:=hb.2 (e k x y hx.out hy.out);cases h7
    | true=>
     have hxy:Hid (x.t=y.t):=hid (hb.1 rfl);clear hb;go_wp2_with fail;go_roundw
     case rel=>
      refine⟨k+1,by go_num,by omega,HB7,hid fun j x' y' hj h7 h8=>?_⟩;by_cases hjk:j=k
      ·subst hjk;rw[hx.out]at h7;rw[hy.out]at h8;cases h7;cases h8;exact hxy.out
      exact hall.out j x' y' (by omega) h7 h8
     case measure=>simp[intOf];omega
   obtain rfl:k=n1:=by omega
   go_wp2_with fail
   go_ret;refine Tells.yes ?_ hbr.out;rw[<-hP.out,hiff.out];intro j x y hx hy;exact hall.out j x y (by have:=(List.getElem?_eq_some_iff.1 hx).1;rw[hn1.out]at this;exact this) hx hy
 have hno:Hid (¬P):=hid fun e=>by rw[<-hP.out]at e;have h7:=congrArg List.length e;rw[List.length_map,List.length_map,hn1.out,hn2.out]at h7;exact hne h7
 have dn:((n1:Int)==(n2:Int))=false:=by simpa using fun h=>hne (by omega)
 go_enter func33,ntmps33;go_wp2_with fail
 go_ret;exact Tells.no hno.out bel_refl
end
end Go.Proofs.YtkghejaimhoboaaGreatDoor
