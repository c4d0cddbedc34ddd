/- Parts of the proof of ScriptTurns. -/
import Derived.Test.YtkghejaimhoboaaGreatDoorPk14
import Derived.Test.YtkghejaimhoboaaGreatDoorPk15
import Derived.Test.YtkghejaimhoboaaGreatDoorPk16
import Derived.Test.YtkghejaimhoboaaGreatDoorPk17
set_option linter.unusedSimpArgs false
set_option linter.unusedVariables false
set_option maxRecDepth 100000
set_option maxHeartbeats 8000000
namespace Go.Proofs.YtkghejaimhoboaaGreatDoor
open Go.RowKit Go.Shelf Go.Proofs.Tryz
section
def ot(c:nS):Prop:=(1<=c.bB/\c.bB<=100)/\(1<=c.room/\c.room<=1000)/\(1<=c.inbox/\c.inbox<=1000)/\(1<=c.subs/\c.subs<=100)/\(1<=c.cP/\c.cP<=40)/\(0<=c.cQ/\c.cQ<=1000)/\c.eY.length<=200
def bZ(s:Sc):Prop:=ot s.cf/\(2<=s.bI/\s.bI<=4096)/\s.ts.length<=2000/\∀t∈s.ts,eh t
def je(c:nS)(bI:Int):List Int:=[c.bB,c.room,c.inbox,c.subs,c.cP,c.cQ,bI]
section
variable (C:bT)
def ij(s:Sc):List UInt8:=(je s.cf s.bI).flatMap (fun z=>ay 2 z.toNat)++(aI s.cf.eY++s.ts.flatMap (iB C))
def jR(l:List UInt8):Option (Int×List UInt8):=(aX 2 l).bind fun c=>some ((c.1:Int),c.2)
def bh(u:Bool)(l:List UInt8):Option Sc:=
 (bJ jR 7 l).bind fun h=>(bC h.2).bind fun s=>(cx (cw C u) s.2.length s.2).bind fun ts=>
  match h.1 with
  | [a,b,c,d,e,f,g]=>some ⟨⟨a,b,c,d,e,f,s.1⟩,g,ts⟩
  | _=>none
theorem Oy{z:Int}(h:0<=z/\z<=65535)(r:List UInt8):jR (ay 2 z.toNat++r)=some (z,r):=by unfold jR;rw[cD 2 _ (by omega),Option.bind_some];dsimp only;rw[Int.toNat_of_nonneg (by omega)]
theorem ve{l r:List UInt8}{c:Int}(h:jR l=some (c,r)):l=ay 2 c.toNat++r:=by
 unfold jR at h;cases h1:aX 2 l with
 | none=>rw[h1]at h;cases h
 |some t=>rw[h1,Option.bind_some]at h;cases h;rw[(bN h1).1];simp
theorem Hn{u:Bool}{s:Sc}(h:bZ s):bh C u (ij C s)=some s:=by
 obtain⟨⟨h1,h2,h3,h4,h5,h6,h7⟩,h8,h9,h10⟩:=h;have hh:∀z∈je s.cf s.bI,0<=z/\z<=65535:=by intro z hz;simp only[je,List.mem_cons,List.not_mem_nil,or_false]at hz;rcases hz with rfl | rfl | rfl | rfl | rfl | rfl | rfl<;>omega
 unfold bh ij;have e7:(je s.cf s.bI).length=7:=rfl;rw[<-e7,mh jR (fun z=>ay 2 z.toNat) (fun z=>0<=z/\z<=65535) (fun z r hz=>Oy hz r) _ _ hh,Option.bind_some];dsimp only;rw[dJ _ (by omega),Option.bind_some];dsimp only;rw[ll (cw C u) (iB C) eh (fun t r ht=>Ou C ht r) (Al C) _ _ h10 ah,Option.bind_some];rfl
theorem mj{u:Bool}{l:List UInt8}{s:Sc}(h:bh C u l=some s):ij C s=l:=by
 unfold bh at h;cases h1:bJ jR 7 l with
 | none=>rw[h1]at h;cases h
 | some x=>
 rw[h1,Option.bind_some]at h;cases h2:bC x.2 with
 | none=>rw[h2]at h;cases h
 | some y=>
 rw[h2,Option.bind_some]at h;cases h3:cx (cw C u) y.2.length y.2 with
 | none=>rw[h3]at h;cases h
 | some ts=>
 rw[h3,Option.bind_some]at h;obtain⟨g1,g2⟩:=jQ jR (fun z=>ay 2 z.toNat) (fun l x r h=>ve h) _ _ _ _ h1;have g3:=(cg h2).1;have g4:=lr (cw C u) (iB C) (fun l x r h=>pC C h) _ _ _ h3;split at h
 ·rename_i a b c d e f g hx;cases h;unfold ij je;rw[g1,g3,hx];dsimp only;rw[<-g4]
 cases h
theorem vg{u:Bool}{l:List UInt8}{s:Sc}:(bh C u l=some s/\bZ s)↔(bZ s/\ij C s=l):=by
 constructor
 ·rintro⟨h1,h2⟩;exact⟨h2,mj C h1⟩
 rintro⟨h1,rfl⟩;exact⟨Hn C h1,h1⟩
end
end
section
attribute [local go_sem] Oper.semAt_some
theorem sF{P:Program}{w:World}{ops:Array Oper}{rest:List Oper}{op:Oper}{a:Act}{Q:Exit->Act->World->Prop}(ty:TypeId){x:Operand}(ho:op.op=.load ty x){b j:Nat}{cs:List Value}(hx:a.eval x=.pointer (some ⟨b,j,none⟩))(hr:w.rangeAt b j cs){d:TypeDesc}(hu:P.underlying ty=some d)
  (h:wpList P ops Q rest (a.put op.dst (.agg cs.toArray)) w) (hgd:op.guard=none:=by rfl) (hd:d.isRow=true:=by rfl) (hi:(P.info? ty).map (·.size)=some cs.length:=by kernel_rfl):wpList P ops Q (op::rest) a w:=by
 refine wpList_plain hgd fun K hK=>?_;have hl:=run_loadAt_mid (P:=P) w b j ty cs d hr hu hd hi;unfold Oper.wp execOp;simp only[ho,hx,Sem.run_bind,hl,Result.andThen_ok,Sem.run_pure];exact hK _ _ h
theorem ar.mid{w:World}{b:Nat}{cs:Array Value}{T:TypeId}(h:ar w b cs T)(pre mid post:List Value)(e:cs.toList=pre++mid++post):w.rangeAt b pre.length mid:=fun j v hj=>by have hlt:=(List.getElem?_eq_some_iff.1 hj).1;rw[show(⟨b,pre.length+j,none⟩:Addr)=⟨b,pre.length+j,none⟩from rfl,h.cell,<-Array.getElem?_toList,e,List.append_assoc,List.getElem?_append_right (by omega),Nat.add_sub_cancel_left,List.getElem?_append_left hlt];exact hj
theorem iH{P:Program}{w:World}{ops:Array Oper}{rest:List Oper}{op:Oper}{a:Act}{Q:Exit->Act->World->Prop}(ty:TypeId){parts:Array (Nat×Operand)}(ho:op.op=.build ty parts)(vs:Array (Nat×Value))(hv:parts.toList.map (fun p=>(p.1,a.eval p.2))=vs.toList)(v:Value)
  (hr:∀W,(Instr.build ty vs).run P W=.ok v W) (h:wpList P ops Q rest (a.put op.dst v) w) (hgd:op.guard=none:=by rfl):wpList P ops Q (op::rest) a w:=by
 have hv:parts.map (fun p=>(p.1,a.eval p.2))=vs:=by apply Array.ext';rw[Array.toList_map];exact hv
 refine wpList_plain hgd fun K hK=>?_;unfold Oper.wp execOp;simp only[ho,hv,Sem.run_bind,hr,Result.andThen_ok,Sem.run_pure];exact hK _ _ h
theorem Ho(c:Int)(p:Pk)(h:H3)(W:World):(Instr.build 55 #[(1,.int .i64 c),(2,.agg (p.cells h).toArray)]).run prog W=.ok (.agg (({ig 0 with conn:=c,pk:=p}:Tn).cells h ⟨none,0,0⟩).toArray) W:=by kernel_rfl
def bQ:Hd:=⟨none,0,0⟩
def bo:H3:=⟨bQ,bQ,bQ⟩
theorem Tn.one(t:Tn)(h:H3)(hp:Hd):∀v∈(t.cells h hp).toArray.toList,v.oneCell'=true:=by intro v hv;simp only[Tn.cells,List.mem_cons,List.not_mem_nil,or_false]at hv;rcases hv with h | h | h | h | h | h | h | h | h | h | h | h | h | h | h | h | h | h | h | h | h | h | h | h | h | h | h | h | h | h<;>(subst h;rfl)
theorem Pk.one(p:Pk)(h:H3):∀v∈(p.cells h).toArray.toList,v.oneCell'=true:=by intro v hv;simp only[Pk.cells,List.mem_cons,List.not_mem_nil,or_false]at hv;rcases hv with h | h | h | h | h | h | h | h | h | h | h | h | h | h | h | h | h | h | h | h | h | h | h | h<;>(subst h;rfl)
def i6:Array Value:=((ig 0).cells bo bQ).toArray
theorem Fw(t:Tn)(h:H3)(hp:Hd)(w:World):Calls prog 46 #[.agg (t.cells h hp).toArray] w fun e w'=>e=.returned (.agg (({ig 0 with conn:=t.conn}:Tn).cells bo bQ).toArray)/\Below w.heap.size w w':=by
 obtain⟨cs,hcs⟩:=ae ((t.cells h hp).toArray);have hB:ar (w.alloc (.cells cs 55)) w.heap.size cs 55:=ar.new _ _ _;have jC:ar ((w.alloc (.cells cs 55)).alloc (.cells i6 55)) w.heap.size cs 55:=hB.alloc _;have hZ:ar ((w.alloc (.cells cs 55)).alloc (.cells i6 55)) (w.heap.size+1) i6 55:=by have:=ar.new (w.alloc (.cells cs 55)) i6 55;simpa using this
 have hb2:Below w.heap.size w ((w.alloc (.cells cs 55)).alloc (.cells i6 55)):=(ai.alloc ah _).alloc (by simp) _
 (have k1:∀o,((w.alloc (.cells cs 55)).alloc o).cell? ⟨w.heap.size,1,none⟩=some (.int .i64 t.conn):=fun o=>by rw[(hB.alloc o).cell,<-hcs];rfl)
 have aV:=af (Tn.one ({ig 0 with conn:=t.conn}:Tn) bo bQ);rw[hcs];clear hcs hB jC;replace hb2:=af hb2;unfold i6 at*
 go_enter func46,ntmps46;go_wp2_with (first
  | (refine wS 55 30 rfl (w.heap.size+1) _ _ rfl rfl hZ rfl rfl aV.out ?_;intro w2 hw2 hr2)
  )
 refine bodyPost_ret (aJ results46 rfl (aj hw2 55 underlying55 rfl (by kernel_rfl))) rfl ⟨rfl,hb2.trans (hr2.ag (by simp;omega) (by simp))⟩
theorem yA(t:Tn)(h:H3)(hp:Hd)(w:World):Calls prog 49 #[.agg (t.cells h hp).toArray] w fun e w'=>e=.returned (.agg (({ig 0 with conn:=0}:Tn).cells bo bQ).toArray)/\Below w.heap.size w w':=by
 obtain⟨cs,hcs⟩:=ae ((t.cells h hp).toArray);have hB:ar (w.alloc (.cells cs 55)) w.heap.size cs 55:=ar.new _ _ _;have jC:ar ((w.alloc (.cells cs 55)).alloc (.cells i6 55)) w.heap.size cs 55:=hB.alloc _;have hZ:ar ((w.alloc (.cells cs 55)).alloc (.cells i6 55)) (w.heap.size+1) i6 55:=by have:=ar.new (w.alloc (.cells cs 55)) i6 55;simpa using this
 have hb2:Below w.heap.size w ((w.alloc (.cells cs 55)).alloc (.cells i6 55)):=(ai.alloc ah _).alloc (by simp) _;skip;have aV:=af (Tn.one ({ig 0 with conn:=0}:Tn) bo bQ);rw[hcs];clear hcs hB jC;replace hb2:=af hb2;unfold i6 at*
 go_enter func49,ntmps49;go_wp2_with (first
  | (refine wS 55 30 rfl (w.heap.size+1) _ _ rfl rfl hZ rfl rfl aV.out ?_;intro w2 hw2 hr2)
  )
 refine bodyPost_ret (aJ results49 rfl (aj hw2 55 underlying55 rfl (by kernel_rfl))) rfl ⟨rfl,hb2.trans (hr2.ag (by simp;omega) (by simp))⟩
theorem Oz(t:Tn)(h:H3)(hp:Hd)(w:World):Calls prog 52 #[.agg (t.cells h hp).toArray] w fun e w'=>e=.returned (.agg (({ig 0 with conn:=t.conn,pk:=t.pk}:Tn).cells h bQ).toArray)/\Below w.heap.size w w':=by
 obtain⟨cs,hcs⟩:=ae ((t.cells h hp).toArray);have hB:ar (w.alloc (.cells cs 55)) w.heap.size cs 55:=ar.new _ _ _;have jC:ar ((w.alloc (.cells cs 55)).alloc (.cells i6 55)) w.heap.size cs 55:=hB.alloc _;have hZ:ar ((w.alloc (.cells cs 55)).alloc (.cells i6 55)) (w.heap.size+1) i6 55:=by have:=ar.new (w.alloc (.cells cs 55)) i6 55;simpa using this
 have hb2:Below w.heap.size w ((w.alloc (.cells cs 55)).alloc (.cells i6 55)):=(ai.alloc ah _).alloc (by simp) _
 (have k1:∀o,((w.alloc (.cells cs 55)).alloc o).cell? ⟨w.heap.size,1,none⟩=some (.int .i64 t.conn):=fun o=>by rw[(hB.alloc o).cell,<-hcs];rfl);(have Sk:=jC.mid [.int .i64 t.kind,.int .i64 t.conn] (t.pk.cells h) [.string ⟨t.bytes.toArray⟩,.int .i64 t.arm,.int .i64 t.n,.slice hp.a hp.n hp.c] (by rw[<-hcs];rfl))
 have aV:=af (Tn.one ({ig 0 with conn:=t.conn,pk:=t.pk}:Tn) h bQ);rw[hcs];clear hcs hB jC;replace hb2:=af hb2;unfold i6 at*
 go_enter func52,ntmps52;go_wp2_with (first
  | (refine wS 55 30 rfl (w.heap.size+1) _ _ rfl rfl hZ rfl rfl aV.out ?_;intro w2 hw2 hr2)
  | (refine sF 52 rfl rfl Sk underlying52 ?_) | (refine iH 55 rfl #[(1,.int .i64 t.conn),(2,.agg (t.pk.cells h).toArray)] rfl _ (Ho t.conn t.pk h) ?_))
 refine bodyPost_ret (aJ results52 rfl (aj hw2 55 underlying55 rfl (by kernel_rfl))) rfl ⟨rfl,hb2.trans (hr2.ag (by simp;omega) (by simp))⟩
theorem KP(t:Tn)(h:H3)(hp:Hd)(w:World):Calls prog 59 #[.agg (t.cells h hp).toArray] w fun e w'=>e=.returned (.agg (({ig 0 with conn:=t.conn,bytes:=t.bytes}:Tn).cells bo bQ).toArray)/\Below w.heap.size w w':=by
 obtain⟨cs,hcs⟩:=ae ((t.cells h hp).toArray);have hB:ar (w.alloc (.cells cs 55)) w.heap.size cs 55:=ar.new _ _ _;have jC:ar ((w.alloc (.cells cs 55)).alloc (.cells i6 55)) w.heap.size cs 55:=hB.alloc _;have hZ:ar ((w.alloc (.cells cs 55)).alloc (.cells i6 55)) (w.heap.size+1) i6 55:=by have:=ar.new (w.alloc (.cells cs 55)) i6 55;simpa using this
 have hb2:Below w.heap.size w ((w.alloc (.cells cs 55)).alloc (.cells i6 55)):=(ai.alloc ah _).alloc (by simp) _
 (have k1:∀o,((w.alloc (.cells cs 55)).alloc o).cell? ⟨w.heap.size,1,none⟩=some (.int .i64 t.conn):=fun o=>by rw[(hB.alloc o).cell,<-hcs];rfl);(have OA:∀o,((w.alloc (.cells cs 55)).alloc o).cell? ⟨w.heap.size,26,none⟩=some (.string ⟨t.bytes.toArray⟩):=fun o=>by rw[(hB.alloc o).cell,<-hcs];rfl)
 have aV:=af (Tn.one ({ig 0 with conn:=t.conn,bytes:=t.bytes}:Tn) bo bQ);rw[hcs];clear hcs hB jC;replace hb2:=af hb2;unfold i6 at*
 go_enter func59,ntmps59;go_wp2_with (first
  | (refine wS 55 30 rfl (w.heap.size+1) _ _ rfl rfl hZ rfl rfl aV.out ?_;intro w2 hw2 hr2)
  )
 refine bodyPost_ret (aJ results59 rfl (aj hw2 55 underlying55 rfl (by kernel_rfl))) rfl ⟨rfl,hb2.trans (hr2.ag (by simp;omega) (by simp))⟩
theorem KR(t:Tn)(h:H3)(hp:Hd)(w:World):Calls prog 63 #[.agg (t.cells h hp).toArray] w fun e w'=>e=.returned (.agg (({ig 0 with arm:=t.arm,n:=t.n}:Tn).cells bo bQ).toArray)/\Below w.heap.size w w':=by
 obtain⟨cs,hcs⟩:=ae ((t.cells h hp).toArray);have hB:ar (w.alloc (.cells cs 55)) w.heap.size cs 55:=ar.new _ _ _;have jC:ar ((w.alloc (.cells cs 55)).alloc (.cells i6 55)) w.heap.size cs 55:=hB.alloc _;have hZ:ar ((w.alloc (.cells cs 55)).alloc (.cells i6 55)) (w.heap.size+1) i6 55:=by have:=ar.new (w.alloc (.cells cs 55)) i6 55;simpa using this
 have hb2:Below w.heap.size w ((w.alloc (.cells cs 55)).alloc (.cells i6 55)):=(ai.alloc ah _).alloc (by simp) _
 (have Jt:∀o,((w.alloc (.cells cs 55)).alloc o).cell? ⟨w.heap.size,27,none⟩=some (.int .i64 t.arm):=fun o=>by rw[(hB.alloc o).cell,<-hcs];rfl);(have Nn:∀o,((w.alloc (.cells cs 55)).alloc o).cell? ⟨w.heap.size,28,none⟩=some (.int .i64 t.n):=fun o=>by rw[(hB.alloc o).cell,<-hcs];rfl)
 have aV:=af (Tn.one ({ig 0 with arm:=t.arm,n:=t.n}:Tn) bo bQ);rw[hcs];clear hcs hB jC;replace hb2:=af hb2;unfold i6 at*
 go_enter func63,ntmps63;go_wp2_with (first
  | (refine wS 55 30 rfl (w.heap.size+1) _ _ rfl rfl hZ rfl rfl aV.out ?_;intro w2 hw2 hr2)
  )
 refine bodyPost_ret (aJ results63 rfl (aj hw2 55 underlying55 rfl (by kernel_rfl))) rfl ⟨rfl,hb2.trans (hr2.ag (by simp;omega) (by simp))⟩
theorem KS(t:Tn)(h:H3)(hp:Hd)(w:World):Calls prog 70 #[.agg (t.cells h hp).toArray] w fun e w'=>e=.returned (.agg (({ig 0 with bf:=t.bf}:Tn).cells bo hp).toArray)/\Below w.heap.size w w':=by
 obtain⟨cs,hcs⟩:=ae ((t.cells h hp).toArray);have hB:ar (w.alloc (.cells cs 55)) w.heap.size cs 55:=ar.new _ _ _;have jC:ar ((w.alloc (.cells cs 55)).alloc (.cells i6 55)) w.heap.size cs 55:=hB.alloc _;have hZ:ar ((w.alloc (.cells cs 55)).alloc (.cells i6 55)) (w.heap.size+1) i6 55:=by have:=ar.new (w.alloc (.cells cs 55)) i6 55;simpa using this
 have hb2:Below w.heap.size w ((w.alloc (.cells cs 55)).alloc (.cells i6 55)):=(ai.alloc ah _).alloc (by simp) _
 (have Fx:∀o,((w.alloc (.cells cs 55)).alloc o).cell? ⟨w.heap.size,29,none⟩=some (.slice hp.a hp.n hp.c):=fun o=>by rw[(hB.alloc o).cell,<-hcs];rfl)
 have aV:=af (Tn.one ({ig 0 with bf:=t.bf}:Tn) bo hp);rw[hcs];clear hcs hB jC;replace hb2:=af hb2;unfold i6 at*
 go_enter func70,ntmps70;go_wp2_with (first
  | (refine wS 55 30 rfl (w.heap.size+1) _ _ rfl rfl hZ rfl rfl aV.out ?_;intro w2 hw2 hr2)
  )
 refine bodyPost_ret (aJ results70 rfl (aj hw2 55 underlying55 rfl (by kernel_rfl))) rfl ⟨rfl,hb2.trans (hr2.ag (by simp;omega) (by simp))⟩
theorem ml(t:Tn)(h:H3)(hp:Hd)(w:World):Calls prog 45 #[.agg (t.cells h hp).toArray] w fun e w'=>e=.returned (.bool (decide (0<=t.conn)&&decide (t.conn<=65535)))/\Below w.heap.size w w':=by
 obtain⟨cs,hcs⟩:=ae ((t.cells h hp).toArray);have hB:ar (w.alloc (.cells cs 55)) w.heap.size cs 55:=ar.new _ _ _;have k1:(w.alloc (.cells cs 55)).cell? ⟨w.heap.size,1,none⟩=some (.int .i64 t.conn):=by rw[hB.cell,<-hcs];rfl
 have hb:Below w.heap.size w (w.alloc (.cells cs 55)):=ai.alloc ah _;replace hb:=af hb;rw[hcs];clear hcs hB;obtain⟨z,hz⟩:=ae t.conn;rw[hz]at k1 ⊢;clear hz;by_cases h1:0<=z
 ·by_cases h2:z<=65535<;>
  ·go_enter func45,ntmps45;go_wp2;go_ret;exact⟨by simp[h1,h2],hb.out⟩
 ·go_enter func45,ntmps45;go_wp2;go_ret;exact⟨by rw[show decide (0<=z)=false from decide_eq_false (by omega),Bool.false_and];rfl,hb.out⟩
theorem lv(a b:Array Value)(w:World):Calls prog 47 #[.agg a,.agg b] w fun e w'=>e=.returned (.tuple #[])/\Below w.heap.size w w':=by
 have hb:Below w.heap.size w ((w.alloc (.cells a 102)).alloc (.cells b 55)):=(ai.alloc ah _).alloc (by simp) _;go_enter func47,ntmps47;go_wp2
 go_end0
 exact⟨rfl,hb⟩
theorem KT(a:Array Value)(p:Value)(w:World):Calls prog 48 #[.agg a,p] w fun e w'=>e=.returned (.tuple #[])/\Below w.heap.size w w':=by
 have hb:Below w.heap.size w (w.alloc (.cells a 61)):=ai.alloc ah _;go_enter func48,ntmps48;go_wp2
 go_end0
 exact⟨rfl,hb⟩
def qD(z:Int):Value:=.int .i64 z
def vh(s:List UInt8):Value:=.string ⟨s.toArray⟩
def vP(x:bM):Value:=.agg #[.string ⟨x.filter.toArray⟩,.int .i64 x.qos]
theorem KU(x y:Int)(W:World):(binOp .neq 3 (qD x) (qD y)).run prog W=.ok (.bool (!decide (x=y))) W:=by unfold qD;go_simp;by_cases h:x=y<;>simp[h]
theorem Qu(x y:List UInt8)(W:World):(binOp .neq 9 (vh x) (vh y)).run prog W=.ok (.bool (!decide (x=y))) W:=by unfold vh;go_simp;by_cases h:x=y<;>simp[h]
theorem bM.eqs(x y:bM):x=y↔x.filter=y.filter/\x.qos=y.qos:=by obtain⟨a,b⟩:=x;obtain⟨c,d⟩:=y;simp
instance:DecidableEq bM:=fun x y=>decidable_of_iff _ (bM.eqs x y).symm
theorem Qv(x y:bM)(W:World):(binOp .neq 169 (vP x) (vP y)).run prog W=.ok (.bool (!decide (x=y))) W:=by obtain⟨a,b⟩:=x;obtain⟨c,d⟩:=y;unfold vP;go_simp;by_cases h1:a=c<;>by_cases h2:b=d<;>simp[h1,h2]
theorem Sl(x y:Int)(s1 s2:Operand)(W:World):(eqGuard .neq 3 s1 s2 (qD x) (qD y)).run prog W=.ok () W:=by unfold qD;go_simp
theorem Wq(x y:List UInt8)(s1 s2:Operand)(W:World):(eqGuard .neq 9 s1 s2 (vh x) (vh y)).run prog W=.ok () W:=by unfold vh;go_simp
theorem Ws(x y:bM)(s1 s2:Operand)(W:World):(eqGuard .neq 169 s1 s2 (vP x) (vP y)).run prog W=.ok () W:=by unfold vP;go_simp
theorem xI{w:World}{a1 a2:Option Addr}{n1 n2 c1 c2:Nat}{xs ys:List Int}(h1:aW jD 1 w a1 n1 c1 xs)(h2:aW jD 1 w a2 n2 c2 ys):
  Calls prog 82 #[.slice a1 n1 c1,.slice a2 n2 c2] w fun e w'=>∃b:Bool,e=.returned (.bool b)/\(b=true↔xs=ys)/\Below w.heap.size w w':=by
 have pQ:=af h1.len;have pR:=af h2.len;have V1:=af h1;have V2:=af h2;have hm:n1<=9223372036854775807:=by have:=h1.le;have:=h1.max;unfold maxLen at this;omega
 have kg:n2<=9223372036854775807:=by have:=h2.le;have:=h2.max;unfold maxLen at this;omega
 clear h1 h2;by_cases hne:n1=n2
 ·subst hne;clear kg;have dn:((n1:Int)==(n1:Int))=true:=by simp
  obtain⟨zn,Ju⟩:∃zn:Int,zn=(n1:Int):=⟨_,rfl⟩;go_enter func82,ntmps82;go_wp2_with fail
  go_loopw [13] (fun i wr=>∃k:Nat,i=.int .i64 k/\k<=n1/\Hid (Below w.heap.size w wr)/\Hid (∀j,j<k->xs[j]?=ys[j]?)) (fun i _=>n1-(intOf i).toNat)
  case atStart=>exact⟨0,rfl,Nat.zero_le _,af ai,af fun j h=>absurd h (by omega)⟩
  case round=>
   obtain⟨k,rfl,gW,hbr,hall⟩:=hrel;rcases Nat.lt_or_ge k n1 with hlt | jw
   ·have dk:decide ((k:Int)<(n1:Int))=true:=decide_eq_true (by omega);obtain⟨x,hx⟩:∃x,xs[k]?=some x:=⟨_,List.getElem?_eq_getElem (by rw[pQ.out];omega)⟩;obtain⟨y,hy⟩:∃y,ys[k]?=some y:=⟨_,List.getElem?_eq_getElem (by rw[pR.out];omega)⟩;obtain⟨g1,o1,ha1,hr1⟩:=V1.range hx;obtain⟨g2,o2,ha2,hr2⟩:=V2.range hy;have hc1:=hr1 _ hbr.out.drew;have hc2:=hr2 _ hbr.out.drew;subst ha1;subst ha2;have mH:=af hbr.out.drew;obtain⟨bv,kC⟩:=ae (decide (x=y));have hq:=KU x y;have hg:=Sl x y;rw[kC]at hq;obtain⟨xv,kD⟩:=ae (qD x);obtain⟨yv,kE⟩:=ae (qD y);have hc1:wr.drew.cell? ⟨g1,o1+k,none⟩=some xv:=by rw[<-kD];simpa using hc1 0 (qD x) rfl
    have hc2:wr.drew.cell? ⟨g2,o2+k,none⟩=some yv:=by rw[<-kE];simpa using hc2 0 (qD y) rfl
    rw[kD,kE]at hq hg;replace kD:=af kD;replace kE:=af kE;replace hx:=af hx;replace hy:=af hy;replace kC:=af kC;clear hr1 hr2 hbr;go_wp2_with fail;refine aH [(1000,fun w'=>w'.cell? ⟨g1,o1+k,none⟩=some xv),(1000,fun w'=>w'.cell? ⟨g2,o2+k,none⟩=some yv)] (by kernel_rfl) ⟨hc1,hc2,trivial⟩ fun KQ aL=>?_;refine tQ [0,1,2] ?_;refine lR 3 0 rfl rfl rfl rfl (fun w' hf=>by(have k0:=hf;go_simp<;>with_reducible rfl)) ?_;simp only[PT];refine tQ [4,5,6] ?_;refine lR 7 1 rfl rfl rfl rfl (fun w' hf=>by(have k0:=hf;go_simp<;>with_reducible rfl)) ?_;simp only[PT];refine tQ [8] ?_;refine dQ (aL.out _ _ ?_);clear aL KQ;rcases bv with _ | _
    ·go_wp2_with fail
     go_ret;refine⟨false,rfl,⟨fun h=>(by cases h),fun h=>?_⟩,mH.out⟩;subst h;have h7:=hx.symm.trans hy.out;cases h7;have h8:=kC.out;simp at h8
    go_wp2_with fail
    go_roundw
    case rel=>
     refine⟨k+1,by go_num,by omega,mH,af fun j hj=>?_⟩;by_cases hjk:j=k
     ·subst hjk;rw[hx.out,hy.out,of_decide_eq_true kC.out]
     exact hall.out j (by omega)
    case measure=>simp[intOf];omega
   obtain rfl:k=n1:=by omega
   have dk:decide ((k:Int)<(k:Int))=false:=by simp
   go_wp2_with fail
   go_ret;refine⟨true,rfl,⟨fun _=>?_,fun _=>rfl⟩,hbr.out⟩;apply List.ext_getElem?;intro j;rcases Nat.lt_or_ge j k with h7 | h7
   ·exact hall.out j h7
   rw[List.getElem?_eq_none (by rw[pQ.out];exact h7),List.getElem?_eq_none (by rw[pR.out];exact h7)]
 have dn:((n1:Int)==(n2:Int))=false:=by simpa using fun h=>hne (by omega)
 go_enter func82,ntmps82;go_wp2_with fail
 go_ret;refine⟨false,rfl,⟨fun h=>(by cases h),fun h=>absurd (by rw[<-pQ.out,<-pR.out,h]) hne⟩,Below.refl _ _⟩
theorem Hp{w:World}{a1 a2:Option Addr}{n1 n2 c1 c2:Nat}{xs ys:List (List UInt8)}(h1:aW uV 1 w a1 n1 c1 xs)(h2:aW uV 1 w a2 n2 c2 ys):
  Calls prog 106 #[.slice a1 n1 c1,.slice a2 n2 c2] w fun e w'=>∃b:Bool,e=.returned (.bool b)/\(b=true↔xs=ys)/\Below w.heap.size w w':=by
 have pQ:=af h1.len;have pR:=af h2.len;have V1:=af h1;have V2:=af h2;have hm:n1<=9223372036854775807:=by have:=h1.le;have:=h1.max;unfold maxLen at this;omega
 have kg:n2<=9223372036854775807:=by have:=h2.le;have:=h2.max;unfold maxLen at this;omega
 clear h1 h2;by_cases hne:n1=n2
 ·subst hne;clear kg;have dn:((n1:Int)==(n1:Int))=true:=by simp
  obtain⟨zn,Ju⟩:∃zn:Int,zn=(n1:Int):=⟨_,rfl⟩;go_enter func106,ntmps106;go_wp2_with fail
  go_loopw [13] (fun i wr=>∃k:Nat,i=.int .i64 k/\k<=n1/\Hid (Below w.heap.size w wr)/\Hid (∀j,j<k->xs[j]?=ys[j]?)) (fun i _=>n1-(intOf i).toNat)
  case atStart=>exact⟨0,rfl,Nat.zero_le _,af ai,af fun j h=>absurd h (by omega)⟩
  case round=>
   obtain⟨k,rfl,gW,hbr,hall⟩:=hrel;rcases Nat.lt_or_ge k n1 with hlt | jw
   ·have dk:decide ((k:Int)<(n1:Int))=true:=decide_eq_true (by omega);obtain⟨x,hx⟩:∃x,xs[k]?=some x:=⟨_,List.getElem?_eq_getElem (by rw[pQ.out];omega)⟩;obtain⟨y,hy⟩:∃y,ys[k]?=some y:=⟨_,List.getElem?_eq_getElem (by rw[pR.out];omega)⟩;obtain⟨g1,o1,ha1,hr1⟩:=V1.range hx;obtain⟨g2,o2,ha2,hr2⟩:=V2.range hy;have hc1:=hr1 _ hbr.out.drew;have hc2:=hr2 _ hbr.out.drew;subst ha1;subst ha2;have mH:=af hbr.out.drew;obtain⟨bv,kC⟩:=ae (decide (x=y));have hq:=Qu x y;have hg:=Wq x y;rw[kC]at hq;obtain⟨xv,kD⟩:=ae (vh x);obtain⟨yv,kE⟩:=ae (vh y);have hc1:wr.drew.cell? ⟨g1,o1+k,none⟩=some xv:=by rw[<-kD];simpa using hc1 0 (vh x) rfl
    have hc2:wr.drew.cell? ⟨g2,o2+k,none⟩=some yv:=by rw[<-kE];simpa using hc2 0 (vh y) rfl
    rw[kD,kE]at hq hg;replace kD:=af kD;replace kE:=af kE;replace hx:=af hx;replace hy:=af hy;replace kC:=af kC;clear hr1 hr2 hbr;go_wp2_with fail;refine aH [(1000,fun w'=>w'.cell? ⟨g1,o1+k,none⟩=some xv),(1000,fun w'=>w'.cell? ⟨g2,o2+k,none⟩=some yv)] (by kernel_rfl) ⟨hc1,hc2,trivial⟩ fun KQ aL=>?_;refine tQ [0,1,2] ?_;refine lR 3 0 rfl rfl rfl rfl (fun w' hf=>by(have k0:=hf;go_simp<;>with_reducible rfl)) ?_;simp only[PT];refine tQ [4,5,6] ?_;refine lR 7 1 rfl rfl rfl rfl (fun w' hf=>by(have k0:=hf;go_simp<;>with_reducible rfl)) ?_;simp only[PT];refine tQ [8] ?_;refine dQ (aL.out _ _ ?_);clear aL KQ;rcases bv with _ | _
    ·go_wp2_with fail
     go_ret;refine⟨false,rfl,⟨fun h=>(by cases h),fun h=>?_⟩,mH.out⟩;subst h;have h7:=hx.symm.trans hy.out;cases h7;have h8:=kC.out;simp at h8
    go_wp2_with fail
    go_roundw
    case rel=>
     refine⟨k+1,by go_num,by omega,mH,af fun j hj=>?_⟩;by_cases hjk:j=k
     ·subst hjk;rw[hx.out,hy.out,of_decide_eq_true kC.out]
     exact hall.out j (by omega)
    case measure=>simp[intOf];omega
   obtain rfl:k=n1:=by omega
   have dk:decide ((k:Int)<(k:Int))=false:=by simp
   go_wp2_with fail
   go_ret;refine⟨true,rfl,⟨fun _=>?_,fun _=>rfl⟩,hbr.out⟩;apply List.ext_getElem?;intro j;rcases Nat.lt_or_ge j k with h7 | h7
   ·exact hall.out j h7
   rw[List.getElem?_eq_none (by rw[pQ.out];exact h7),List.getElem?_eq_none (by rw[pR.out];exact h7)]
 have dn:((n1:Int)==(n2:Int))=false:=by simpa using fun h=>hne (by omega)
 go_enter func106,ntmps106;go_wp2_with fail
 go_ret;refine⟨false,rfl,⟨fun h=>(by cases h),fun h=>absurd (by rw[<-pQ.out,<-pR.out,h]) hne⟩,Below.refl _ _⟩
theorem Hq{w:World}{a1 a2:Option Addr}{n1 n2 c1 c2:Nat}{xs ys:List bM}(h1:aW bM.cl 2 w a1 n1 c1 xs)(h2:aW bM.cl 2 w a2 n2 c2 ys):
  Calls prog 105 #[.slice a1 n1 c1,.slice a2 n2 c2] w fun e w'=>∃b:Bool,e=.returned (.bool b)/\(b=true↔xs=ys)/\Below w.heap.size w w':=by
 have pQ:=af h1.len;have pR:=af h2.len;have V1:=af h1;have V2:=af h2;have hm:n1<=9223372036854775807:=by have:=h1.le;have:=h1.max;unfold maxLen at this;omega
 have kg:n2<=9223372036854775807:=by have:=h2.le;have:=h2.max;unfold maxLen at this;omega
 clear h1 h2;by_cases hne:n1=n2
 ·subst hne;clear kg;have dn:((n1:Int)==(n1:Int))=true:=by simp
  obtain⟨zn,Ju⟩:∃zn:Int,zn=(n1:Int):=⟨_,rfl⟩;go_enter func105,ntmps105;go_wp2_with fail
  go_loopw [13] (fun i wr=>∃k:Nat,i=.int .i64 k/\k<=n1/\Hid (Below w.heap.size w wr)/\Hid (∀j,j<k->xs[j]?=ys[j]?)) (fun i _=>n1-(intOf i).toNat)
  case atStart=>exact⟨0,rfl,Nat.zero_le _,af ai,af fun j h=>absurd h (by omega)⟩
  case round=>
   obtain⟨k,rfl,gW,hbr,hall⟩:=hrel;rcases Nat.lt_or_ge k n1 with hlt | jw
   ·have dk:decide ((k:Int)<(n1:Int))=true:=decide_eq_true (by omega);obtain⟨x,hx⟩:∃x,xs[k]?=some x:=⟨_,List.getElem?_eq_getElem (by rw[pQ.out];omega)⟩;obtain⟨y,hy⟩:∃y,ys[k]?=some y:=⟨_,List.getElem?_eq_getElem (by rw[pR.out];omega)⟩;obtain⟨g1,o1,ha1,hr1⟩:=V1.range hx;obtain⟨g2,o2,ha2,hr2⟩:=V2.range hy;have hc1:=hr1 _ hbr.out.drew;have hc2:=hr2 _ hbr.out.drew;subst ha1;subst ha2;have mH:=af hbr.out.drew;obtain⟨bv,kC⟩:=ae (decide (x=y));have hq:=Qv x y;have hg:=Ws x y;rw[kC]at hq;obtain⟨xv,kD⟩:=ae (vP x);obtain⟨yv,kE⟩:=ae (vP y);skip;skip;rw[kD,kE]at hq hg;replace kD:=af kD;replace kE:=af kE;replace hx:=af hx;replace hy:=af hy;replace kC:=af kC;clear hr1 hr2 hbr;go_wp2_with fail;refine aH [(1000,fun w'=>w'.rangeAt g1 (o1+k*2) x.cl),(1000,fun w'=>w'.rangeAt g2 (o2+k*2) y.cl)] (by kernel_rfl) ⟨hc1,hc2,trivial⟩ fun KQ aL=>?_;refine tQ [0,1,2] ?_;refine lR 3 0 rfl rfl rfl rfl (v:=xv) (fun w' hf=>by rw[<-kD.out];exact run_loadAt_mid w' _ _ 169 x.cl _ hf underlying169 rfl (by kernel_rfl)) ?_;try simp only[PT]
    refine tQ [4,5,6] ?_;refine lR 7 1 rfl rfl rfl rfl (v:=yv) (fun w' hf=>by rw[<-kE.out];exact run_loadAt_mid w' _ _ 169 y.cl _ hf underlying169 rfl (by kernel_rfl)) ?_;try simp only[PT]
    refine tQ [8] ?_;refine dQ (aL.out _ _ ?_);clear aL KQ;rcases bv with _ | _
    ·go_wp2_with fail
     go_ret;refine⟨false,rfl,⟨fun h=>(by cases h),fun h=>?_⟩,mH.out⟩;subst h;have h7:=hx.symm.trans hy.out;cases h7;have h8:=kC.out;simp at h8
    go_wp2_with fail
    go_roundw
    case rel=>
     refine⟨k+1,by go_num,by omega,mH,af fun j hj=>?_⟩;by_cases hjk:j=k
     ·subst hjk;rw[hx.out,hy.out,of_decide_eq_true kC.out]
     exact hall.out j (by omega)
    case measure=>simp[intOf];omega
   obtain rfl:k=n1:=by omega
   have dk:decide ((k:Int)<(k:Int))=false:=by simp
   go_wp2_with fail
   go_ret;refine⟨true,rfl,⟨fun _=>?_,fun _=>rfl⟩,hbr.out⟩;apply List.ext_getElem?;intro j;rcases Nat.lt_or_ge j k with h7 | h7
   ·exact hall.out j h7
   rw[List.getElem?_eq_none (by rw[pQ.out];exact h7),List.getElem?_eq_none (by rw[pR.out];exact h7)]
 have dn:((n1:Int)==(n2:Int))=false:=by simpa using fun h=>hne (by omega)
 go_enter func105,ntmps105;go_wp2_with fail
 go_ret;refine⟨false,rfl,⟨fun h=>(by cases h),fun h=>absurd (by rw[<-pQ.out,<-pR.out,h]) hne⟩,Below.refl _ _⟩
theorem wG{w:World}{a1 a2:Option Addr}{n1 n2 c1 c2:Nat}{xs ys:List Int}(h1:aW jD 1 w a1 n1 c1 xs)(h2:aW jD 1 w a2 n2 c2 ys):
  Calls prog 77 #[.slice a1 n1 c1,.slice a2 n2 c2] w fun e w'=>∃b:Bool,e=.returned (.bool b)/\(b=true↔xs=ys)/\Below w.heap.size w w':=by
 have pQ:=af h1.len;have pR:=af h2.len;have V1:=af h1;have V2:=af h2;have hm:n1<=9223372036854775807:=by have:=h1.le;have:=h1.max;unfold maxLen at this;omega
 have kg:n2<=9223372036854775807:=by have:=h2.le;have:=h2.max;unfold maxLen at this;omega
 clear h1 h2;by_cases hne:n1=n2
 ·subst hne;clear kg;have dn:((n1:Int)==(n1:Int))=true:=by simp
  obtain⟨zn,Ju⟩:∃zn:Int,zn=(n1:Int):=⟨_,rfl⟩;go_enter func77,ntmps77;go_wp2_with fail
  go_loopw [5] (fun i wr=>∃k:Nat,i=.int .i64 k/\k<=n1/\Hid (Below w.heap.size w wr)/\Hid (∀j,j<k->xs[j]?=ys[j]?)) (fun i _=>n1-(intOf i).toNat)
  case atStart=>exact⟨0,rfl,Nat.zero_le _,af ai,af fun j h=>absurd h (by omega)⟩
  case round=>
   obtain⟨k,rfl,gW,hbr,hall⟩:=hrel;rcases Nat.lt_or_ge k n1 with hlt | jw
   ·have dk:decide ((k:Int)<(n1:Int))=true:=decide_eq_true (by omega);obtain⟨x,hx⟩:∃x,xs[k]?=some x:=⟨_,List.getElem?_eq_getElem (by rw[pQ.out];omega)⟩;obtain⟨y,hy⟩:∃y,ys[k]?=some y:=⟨_,List.getElem?_eq_getElem (by rw[pR.out];omega)⟩;obtain⟨g1,o1,ha1,hr1⟩:=V1.range hx;obtain⟨g2,o2,ha2,hr2⟩:=V2.range hy;have hc1:=hr1 _ hbr.out.drew;have hc2:=hr2 _ hbr.out.drew;subst ha1;subst ha2;have mH:=af hbr.out.drew;obtain⟨bv,kC⟩:=ae (decide (x=y));have hq:=KU x y;have hg:=Sl x y;rw[kC]at hq;obtain⟨xv,kD⟩:=ae (qD x);obtain⟨yv,kE⟩:=ae (qD y);have hc1:wr.drew.cell? ⟨g1,o1+k,none⟩=some xv:=by rw[<-kD];simpa using hc1 0 (qD x) rfl
    have hc2:wr.drew.cell? ⟨g2,o2+k,none⟩=some yv:=by rw[<-kE];simpa using hc2 0 (qD y) rfl
    rw[kD,kE]at hq hg;replace kD:=af kD;replace kE:=af kE;replace hx:=af hx;replace hy:=af hy;replace kC:=af kC;clear hr1 hr2 hbr;go_wp2_with fail;refine aH [(1000,fun w'=>w'.cell? ⟨g1,o1+k,none⟩=some xv),(1000,fun w'=>w'.cell? ⟨g2,o2+k,none⟩=some yv)] (by kernel_rfl) ⟨hc1,hc2,trivial⟩ fun KQ aL=>?_;refine tQ [0,1,2] ?_;refine lR 3 0 rfl rfl rfl rfl (fun w' hf=>by(have k0:=hf;go_simp<;>with_reducible rfl)) ?_;simp only[PT];refine tQ [4,5,6] ?_;refine lR 7 1 rfl rfl rfl rfl (fun w' hf=>by(have k0:=hf;go_simp<;>with_reducible rfl)) ?_;simp only[PT];refine tQ [8] ?_;refine dQ (aL.out _ _ ?_);clear aL KQ;rcases bv with _ | _
    ·go_wp2_with fail
     go_ret;refine⟨false,rfl,⟨fun h=>(by cases h),fun h=>?_⟩,mH.out⟩;subst h;have h7:=hx.symm.trans hy.out;cases h7;have h8:=kC.out;simp at h8
    go_wp2_with fail
    go_roundw
    case rel=>
     refine⟨k+1,by go_num,by omega,mH,af fun j hj=>?_⟩;by_cases hjk:j=k
     ·subst hjk;rw[hx.out,hy.out,of_decide_eq_true kC.out]
     exact hall.out j (by omega)
    case measure=>simp[intOf];omega
   obtain rfl:k=n1:=by omega
   have dk:decide ((k:Int)<(k:Int))=false:=by simp
   go_wp2_with fail
   go_ret;refine⟨true,rfl,⟨fun _=>?_,fun _=>rfl⟩,hbr.out⟩;apply List.ext_getElem?;intro j;rcases Nat.lt_or_ge j k with h7 | h7
   ·exact hall.out j h7
   rw[List.getElem?_eq_none (by rw[pQ.out];exact h7),List.getElem?_eq_none (by rw[pR.out];exact h7)]
 have dn:((n1:Int)==(n2:Int))=false:=by simpa using fun h=>hne (by omega)
 go_enter func77,ntmps77;go_wp2_with fail
 go_ret;refine⟨false,rfl,⟨fun h=>(by cases h),fun h=>absurd (by rw[<-pQ.out,<-pR.out,h]) hne⟩,Below.refl _ _⟩
end
section
theorem pE{P:Prop}(h:P:=by
 refine dM [4] (fun j hj=>?_);have hj:j=4:=by simpa using hj
 subst hj;refine⟨⟨_,rfl,by kernel_rfl,fun K hK=>?_⟩⟩;go_simp;replace BW:=BW.alloc BW.size (.map #[] 0);replace bW:=bW.alloc (.map #[] 0);replace F:=cJ F;refine hK _ _ ⟨⟨fun _=>bW,trivial⟩,?_⟩;clear hK K;obtain⟨m4,hm⟩:=ae W.heap.size;rw[hm]at F ⊢;obtain⟨W',hW'⟩:=ae (W.alloc (.map #[] 0));rw[hW']at BW bW F ⊢;clear hm hW' W;obtain⟨W,rfl⟩:∃X,X=W':=⟨_,rfl⟩;try simp only[PT]
 refine py 5 #[(0,.pointer (some ⟨bk,0,none⟩)),(1,.agg cv),(3,.map (some m2)),(4,.map (some m3)),(5,.map (some m4))] _ rfl rfl rfl (jL bk m2 m3 m4) ?_;try simp only[PT]
 refine sQ 6 fun K hK=>?_;simp only[GO];go_simp;refine hK _ _ ⟨⟨fun _=>bW.alloc _,trivial⟩,?_⟩;clear hK K;try simp only[PT]
 refine tQ [7] ?_;refine dQ (aL.out _ _ ?_);clear aL KQ;have hR:=af (show Wt w c W.heap.size (W.alloc (.cells (Am c bk m2 m3 m4) 217))from⟨BW.alloc BW.size _,bW.alloc _,_,_,_,_,ar.new _ _ _,jn F _ _ (by simp),jn F _ _ (by simp)⟩);go_wp2;go_meet
 case rel=>exact⟨_,rfl,hR⟩):P:=h
theorem pH{P:Prop}(h:P:=by
 refine dM [3] (fun j hj=>?_);have hj:j=3:=by simpa using hj
 subst hj;refine⟨⟨_,rfl,by kernel_rfl,fun K hK=>?_⟩⟩;go_simp;replace BW:=BW.alloc BW.size (.map #[] 0);replace bW:=bW.alloc (.map #[] 0);replace F:=cJ F;refine hK _ _ ⟨⟨fun _=>bW,trivial⟩,?_⟩;clear hK K;obtain⟨m3,hm⟩:=ae W.heap.size;rw[hm]at F ⊢;obtain⟨W',hW'⟩:=ae (W.alloc (.map #[] 0));rw[hW']at BW bW F ⊢;clear hm hW' W;obtain⟨W,rfl⟩:∃X,X=W':=⟨_,rfl⟩;try simp only[PT]
 refine py 5 #[(0,.pointer (some ⟨bk,0,none⟩)),(1,.agg cv),(3,.map (some m2)),(4,.map (some m3)),(5,.map (some m4))] _ rfl rfl rfl (jL bk m2 m3 m4) ?_;try simp only[PT]
 refine sQ 6 fun K hK=>?_;simp only[GO];go_simp;refine hK _ _ ⟨⟨fun _=>bW.alloc _,trivial⟩,?_⟩;clear hK K;try simp only[PT]
 refine tQ [7] ?_;refine dQ (aL.out _ _ ?_);clear aL KQ;have hR:=af (show Wt w c W.heap.size (W.alloc (.cells (Am c bk m2 m3 m4) 217))from⟨BW.alloc BW.size _,bW.alloc _,_,_,_,_,ar.new _ _ _,jn F _ _ (by simp),jn F _ _ (by simp)⟩);go_wp2;go_meet
 case rel=>exact⟨_,rfl,hR⟩):P:=h
theorem sG{P:Prop}(h:P:=by
 refine dM [3,4] (fun j hj=>?_);have hj:j=3\/j=4:=by simpa using hj
 rcases hj with rfl | rfl
 ·refine⟨⟨_,rfl,by kernel_rfl,fun K hK=>?_⟩⟩;go_simp;replace BW:=BW.alloc BW.size (.map #[] 0);replace bW:=bW.alloc (.map #[] 0);replace F:=cJ F;refine hK _ _ ⟨⟨fun _=>bW,trivial⟩,?_⟩;clear hK K;obtain⟨m3,hm⟩:=ae W.heap.size;rw[hm]at F ⊢;obtain⟨W',hW'⟩:=ae (W.alloc (.map #[] 0));rw[hW']at BW bW F ⊢;clear hm hW' W;obtain⟨W,rfl⟩:∃X,X=W':=⟨_,rfl⟩;try simp only[PT]
  exact pE
 skip;refine⟨⟨_,rfl,by kernel_rfl,fun K hK=>?_⟩⟩;go_simp;replace BW:=BW.alloc BW.size (.map #[] 0);replace bW:=bW.alloc (.map #[] 0);replace F:=cJ F;refine hK _ _ ⟨⟨fun _=>bW,trivial⟩,?_⟩;clear hK K;obtain⟨m4,hm⟩:=ae W.heap.size;rw[hm]at F ⊢;obtain⟨W',hW'⟩:=ae (W.alloc (.map #[] 0));rw[hW']at BW bW F ⊢;clear hm hW' W;obtain⟨W,rfl⟩:∃X,X=W':=⟨_,rfl⟩;try simp only[PT]
 exact pH):P:=h
theorem pI{P:Prop}(h:P:=by
 refine dM [2] (fun j hj=>?_);have hj:j=2:=by simpa using hj
 subst hj;refine⟨⟨_,rfl,by kernel_rfl,fun K hK=>?_⟩⟩;go_simp;replace BW:=BW.alloc BW.size (.map #[] 0);replace bW:=bW.alloc (.map #[] 0);replace F:=cJ F;refine hK _ _ ⟨⟨fun _=>bW,trivial⟩,?_⟩;clear hK K;obtain⟨m2,hm⟩:=ae W.heap.size;rw[hm]at F ⊢;obtain⟨W',hW'⟩:=ae (W.alloc (.map #[] 0));rw[hW']at BW bW F ⊢;clear hm hW' W;obtain⟨W,rfl⟩:∃X,X=W':=⟨_,rfl⟩;try simp only[PT]
 refine py 5 #[(0,.pointer (some ⟨bk,0,none⟩)),(1,.agg cv),(3,.map (some m2)),(4,.map (some m3)),(5,.map (some m4))] _ rfl rfl rfl (jL bk m2 m3 m4) ?_;try simp only[PT]
 refine sQ 6 fun K hK=>?_;simp only[GO];go_simp;refine hK _ _ ⟨⟨fun _=>bW.alloc _,trivial⟩,?_⟩;clear hK K;try simp only[PT]
 refine tQ [7] ?_;refine dQ (aL.out _ _ ?_);clear aL KQ;have hR:=af (show Wt w c W.heap.size (W.alloc (.cells (Am c bk m2 m3 m4) 217))from⟨BW.alloc BW.size _,bW.alloc _,_,_,_,_,ar.new _ _ _,jn F _ _ (by simp),jn F _ _ (by simp)⟩);go_wp2;go_meet
 case rel=>exact⟨_,rfl,hR⟩):P:=h
theorem sH{P:Prop}(h:P:=by
 refine dM [2,4] (fun j hj=>?_);have hj:j=2\/j=4:=by simpa using hj
 rcases hj with rfl | rfl
 ·refine⟨⟨_,rfl,by kernel_rfl,fun K hK=>?_⟩⟩;go_simp;replace BW:=BW.alloc BW.size (.map #[] 0);replace bW:=bW.alloc (.map #[] 0);replace F:=cJ F;refine hK _ _ ⟨⟨fun _=>bW,trivial⟩,?_⟩;clear hK K;obtain⟨m2,hm⟩:=ae W.heap.size;rw[hm]at F ⊢;obtain⟨W',hW'⟩:=ae (W.alloc (.map #[] 0));rw[hW']at BW bW F ⊢;clear hm hW' W;obtain⟨W,rfl⟩:∃X,X=W':=⟨_,rfl⟩;try simp only[PT]
  exact pE
 skip;refine⟨⟨_,rfl,by kernel_rfl,fun K hK=>?_⟩⟩;go_simp;replace BW:=BW.alloc BW.size (.map #[] 0);replace bW:=bW.alloc (.map #[] 0);replace F:=cJ F;refine hK _ _ ⟨⟨fun _=>bW,trivial⟩,?_⟩;clear hK K;obtain⟨m4,hm⟩:=ae W.heap.size;rw[hm]at F ⊢;obtain⟨W',hW'⟩:=ae (W.alloc (.map #[] 0));rw[hW']at BW bW F ⊢;clear hm hW' W;obtain⟨W,rfl⟩:∃X,X=W':=⟨_,rfl⟩;try simp only[PT]
 exact pI):P:=h
theorem sI{P:Prop}(h:P:=by
 refine dM [2,3] (fun j hj=>?_);have hj:j=2\/j=3:=by simpa using hj
 rcases hj with rfl | rfl
 ·refine⟨⟨_,rfl,by kernel_rfl,fun K hK=>?_⟩⟩;go_simp;replace BW:=BW.alloc BW.size (.map #[] 0);replace bW:=bW.alloc (.map #[] 0);replace F:=cJ F;refine hK _ _ ⟨⟨fun _=>bW,trivial⟩,?_⟩;clear hK K;obtain⟨m2,hm⟩:=ae W.heap.size;rw[hm]at F ⊢;obtain⟨W',hW'⟩:=ae (W.alloc (.map #[] 0));rw[hW']at BW bW F ⊢;clear hm hW' W;obtain⟨W,rfl⟩:∃X,X=W':=⟨_,rfl⟩;try simp only[PT]
  exact pH
 skip;refine⟨⟨_,rfl,by kernel_rfl,fun K hK=>?_⟩⟩;go_simp;replace BW:=BW.alloc BW.size (.map #[] 0);replace bW:=bW.alloc (.map #[] 0);replace F:=cJ F;refine hK _ _ ⟨⟨fun _=>bW,trivial⟩,?_⟩;clear hK K;obtain⟨m3,hm⟩:=ae W.heap.size;rw[hm]at F ⊢;obtain⟨W',hW'⟩:=ae (W.alloc (.map #[] 0));rw[hW']at BW bW F ⊢;clear hm hW' W;obtain⟨W,rfl⟩:∃X,X=W':=⟨_,rfl⟩;try simp only[PT]
 exact pI):P:=h
theorem yB{P:Prop}(h:P:=by
 refine dM [2,3,4] (fun j hj=>?_);have hj:j=2\/j=3\/j=4:=by simpa using hj
 rcases hj with rfl | rfl | rfl
 ·refine⟨⟨_,rfl,by kernel_rfl,fun K hK=>?_⟩⟩;go_simp;replace BW:=BW.alloc BW.size (.map #[] 0);replace bW:=bW.alloc (.map #[] 0);replace F:=cJ F;refine hK _ _ ⟨⟨fun _=>bW,trivial⟩,?_⟩;clear hK K;obtain⟨m2,hm⟩:=ae W.heap.size;rw[hm]at F ⊢;obtain⟨W',hW'⟩:=ae (W.alloc (.map #[] 0));rw[hW']at BW bW F ⊢;clear hm hW' W;obtain⟨W,rfl⟩:∃X,X=W':=⟨_,rfl⟩;try simp only[PT]
  exact sG
 ·refine⟨⟨_,rfl,by kernel_rfl,fun K hK=>?_⟩⟩;go_simp;replace BW:=BW.alloc BW.size (.map #[] 0);replace bW:=bW.alloc (.map #[] 0);replace F:=cJ F;refine hK _ _ ⟨⟨fun _=>bW,trivial⟩,?_⟩;clear hK K;obtain⟨m3,hm⟩:=ae W.heap.size;rw[hm]at F ⊢;obtain⟨W',hW'⟩:=ae (W.alloc (.map #[] 0));rw[hW']at BW bW F ⊢;clear hm hW' W;obtain⟨W,rfl⟩:∃X,X=W':=⟨_,rfl⟩;try simp only[PT]
  exact sH
 skip;refine⟨⟨_,rfl,by kernel_rfl,fun K hK=>?_⟩⟩;go_simp;replace BW:=BW.alloc BW.size (.map #[] 0);replace bW:=bW.alloc (.map #[] 0);replace F:=cJ F;refine hK _ _ ⟨⟨fun _=>bW,trivial⟩,?_⟩;clear hK K;obtain⟨m4,hm⟩:=ae W.heap.size;rw[hm]at F ⊢;obtain⟨W',hW'⟩:=ae (W.alloc (.map #[] 0));rw[hW']at BW bW F ⊢;clear hm hW' W;obtain⟨W,rfl⟩:∃X,X=W':=⟨_,rfl⟩;try simp only[PT]
 exact sI):P:=h
theorem pJ{P:Prop}(h:P:=by
 refine dM [0] (fun j hj=>?_);have hj:j=0:=by simpa using hj
 subst hj;refine⟨⟨_,rfl,by kernel_rfl,fun K hK=>?_⟩⟩;go_simp;refine(gw W).mono ?_;rintro e W' ⟨bk,rfl,hb⟩;replace BW:=BW.trans (hb.mono BW.size);replace bW:=bW.ag hb;replace F:=gy F hb;refine hK _ _ ⟨⟨fun _=>bW,trivial⟩,?_⟩;clear hK K hb W;obtain⟨W,rfl⟩:∃X,X=W':=⟨_,rfl⟩;try simp only[PT]
 refine py 5 #[(0,.pointer (some ⟨bk,0,none⟩)),(1,.agg cv),(3,.map (some m2)),(4,.map (some m3)),(5,.map (some m4))] _ rfl rfl rfl (jL bk m2 m3 m4) ?_;try simp only[PT]
 refine sQ 6 fun K hK=>?_;simp only[GO];go_simp;refine hK _ _ ⟨⟨fun _=>bW.alloc _,trivial⟩,?_⟩;clear hK K;try simp only[PT]
 refine tQ [7] ?_;refine dQ (aL.out _ _ ?_);clear aL KQ;have hR:=af (show Wt w c W.heap.size (W.alloc (.cells (Am c bk m2 m3 m4) 217))from⟨BW.alloc BW.size _,bW.alloc _,_,_,_,_,ar.new _ _ _,jn F _ _ (by simp),jn F _ _ (by simp)⟩);go_wp2;go_meet
 case rel=>exact⟨_,rfl,hR⟩):P:=h
theorem sJ{P:Prop}(h:P:=by
 refine dM [0,4] (fun j hj=>?_);have hj:j=0\/j=4:=by simpa using hj
 rcases hj with rfl | rfl
 ·refine⟨⟨_,rfl,by kernel_rfl,fun K hK=>?_⟩⟩;go_simp;refine(gw W).mono ?_;rintro e W' ⟨bk,rfl,hb⟩;replace BW:=BW.trans (hb.mono BW.size);replace bW:=bW.ag hb;replace F:=gy F hb;refine hK _ _ ⟨⟨fun _=>bW,trivial⟩,?_⟩;clear hK K hb W;obtain⟨W,rfl⟩:∃X,X=W':=⟨_,rfl⟩;try simp only[PT]
  exact pE
 skip;refine⟨⟨_,rfl,by kernel_rfl,fun K hK=>?_⟩⟩;go_simp;replace BW:=BW.alloc BW.size (.map #[] 0);replace bW:=bW.alloc (.map #[] 0);replace F:=cJ F;refine hK _ _ ⟨⟨fun _=>bW,trivial⟩,?_⟩;clear hK K;obtain⟨m4,hm⟩:=ae W.heap.size;rw[hm]at F ⊢;obtain⟨W',hW'⟩:=ae (W.alloc (.map #[] 0));rw[hW']at BW bW F ⊢;clear hm hW' W;obtain⟨W,rfl⟩:∃X,X=W':=⟨_,rfl⟩;try simp only[PT]
 exact pJ):P:=h
theorem qE{P:Prop}(h:P:=by
 refine dM [0,3] (fun j hj=>?_);have hj:j=0\/j=3:=by simpa using hj
 rcases hj with rfl | rfl
 ·refine⟨⟨_,rfl,by kernel_rfl,fun K hK=>?_⟩⟩;go_simp;refine(gw W).mono ?_;rintro e W' ⟨bk,rfl,hb⟩;replace BW:=BW.trans (hb.mono BW.size);replace bW:=bW.ag hb;replace F:=gy F hb;refine hK _ _ ⟨⟨fun _=>bW,trivial⟩,?_⟩;clear hK K hb W;obtain⟨W,rfl⟩:∃X,X=W':=⟨_,rfl⟩;try simp only[PT]
  exact pH
 skip;refine⟨⟨_,rfl,by kernel_rfl,fun K hK=>?_⟩⟩;go_simp;replace BW:=BW.alloc BW.size (.map #[] 0);replace bW:=bW.alloc (.map #[] 0);replace F:=cJ F;refine hK _ _ ⟨⟨fun _=>bW,trivial⟩,?_⟩;clear hK K;obtain⟨m3,hm⟩:=ae W.heap.size;rw[hm]at F ⊢;obtain⟨W',hW'⟩:=ae (W.alloc (.map #[] 0));rw[hW']at BW bW F ⊢;clear hm hW' W;obtain⟨W,rfl⟩:∃X,X=W':=⟨_,rfl⟩;try simp only[PT]
 exact pJ):P:=h
theorem wH{P:Prop}(h:P:=by
 refine dM [0,3,4] (fun j hj=>?_);have hj:j=0\/j=3\/j=4:=by simpa using hj
 rcases hj with rfl | rfl | rfl
 ·refine⟨⟨_,rfl,by kernel_rfl,fun K hK=>?_⟩⟩;go_simp;refine(gw W).mono ?_;rintro e W' ⟨bk,rfl,hb⟩;replace BW:=BW.trans (hb.mono BW.size);replace bW:=bW.ag hb;replace F:=gy F hb;refine hK _ _ ⟨⟨fun _=>bW,trivial⟩,?_⟩;clear hK K hb W;obtain⟨W,rfl⟩:∃X,X=W':=⟨_,rfl⟩;try simp only[PT]
  exact sG
 ·refine⟨⟨_,rfl,by kernel_rfl,fun K hK=>?_⟩⟩;go_simp;replace BW:=BW.alloc BW.size (.map #[] 0);replace bW:=bW.alloc (.map #[] 0);replace F:=cJ F;refine hK _ _ ⟨⟨fun _=>bW,trivial⟩,?_⟩;clear hK K;obtain⟨m3,hm⟩:=ae W.heap.size;rw[hm]at F ⊢;obtain⟨W',hW'⟩:=ae (W.alloc (.map #[] 0));rw[hW']at BW bW F ⊢;clear hm hW' W;obtain⟨W,rfl⟩:∃X,X=W':=⟨_,rfl⟩;try simp only[PT]
  exact sJ
 skip;refine⟨⟨_,rfl,by kernel_rfl,fun K hK=>?_⟩⟩;go_simp;replace BW:=BW.alloc BW.size (.map #[] 0);replace bW:=bW.alloc (.map #[] 0);replace F:=cJ F;refine hK _ _ ⟨⟨fun _=>bW,trivial⟩,?_⟩;clear hK K;obtain⟨m4,hm⟩:=ae W.heap.size;rw[hm]at F ⊢;obtain⟨W',hW'⟩:=ae (W.alloc (.map #[] 0));rw[hW']at BW bW F ⊢;clear hm hW' W;obtain⟨W,rfl⟩:∃X,X=W':=⟨_,rfl⟩;try simp only[PT]
 exact qE):P:=h
theorem qF{P:Prop}(h:P:=by
 refine dM [0,2] (fun j hj=>?_);have hj:j=0\/j=2:=by simpa using hj
 rcases hj with rfl | rfl
 ·refine⟨⟨_,rfl,by kernel_rfl,fun K hK=>?_⟩⟩;go_simp;refine(gw W).mono ?_;rintro e W' ⟨bk,rfl,hb⟩;replace BW:=BW.trans (hb.mono BW.size);replace bW:=bW.ag hb;replace F:=gy F hb;refine hK _ _ ⟨⟨fun _=>bW,trivial⟩,?_⟩;clear hK K hb W;obtain⟨W,rfl⟩:∃X,X=W':=⟨_,rfl⟩;try simp only[PT]
  exact pI
 skip;refine⟨⟨_,rfl,by kernel_rfl,fun K hK=>?_⟩⟩;go_simp;replace BW:=BW.alloc BW.size (.map #[] 0);replace bW:=bW.alloc (.map #[] 0);replace F:=cJ F;refine hK _ _ ⟨⟨fun _=>bW,trivial⟩,?_⟩;clear hK K;obtain⟨m2,hm⟩:=ae W.heap.size;rw[hm]at F ⊢;obtain⟨W',hW'⟩:=ae (W.alloc (.map #[] 0));rw[hW']at BW bW F ⊢;clear hm hW' W;obtain⟨W,rfl⟩:∃X,X=W':=⟨_,rfl⟩;try simp only[PT]
 exact pJ):P:=h
theorem wI{P:Prop}(h:P:=by
 refine dM [0,2,4] (fun j hj=>?_);have hj:j=0\/j=2\/j=4:=by simpa using hj
 rcases hj with rfl | rfl | rfl
 ·refine⟨⟨_,rfl,by kernel_rfl,fun K hK=>?_⟩⟩;go_simp;refine(gw W).mono ?_;rintro e W' ⟨bk,rfl,hb⟩;replace BW:=BW.trans (hb.mono BW.size);replace bW:=bW.ag hb;replace F:=gy F hb;refine hK _ _ ⟨⟨fun _=>bW,trivial⟩,?_⟩;clear hK K hb W;obtain⟨W,rfl⟩:∃X,X=W':=⟨_,rfl⟩;try simp only[PT]
  exact sH
 ·refine⟨⟨_,rfl,by kernel_rfl,fun K hK=>?_⟩⟩;go_simp;replace BW:=BW.alloc BW.size (.map #[] 0);replace bW:=bW.alloc (.map #[] 0);replace F:=cJ F;refine hK _ _ ⟨⟨fun _=>bW,trivial⟩,?_⟩;clear hK K;obtain⟨m2,hm⟩:=ae W.heap.size;rw[hm]at F ⊢;obtain⟨W',hW'⟩:=ae (W.alloc (.map #[] 0));rw[hW']at BW bW F ⊢;clear hm hW' W;obtain⟨W,rfl⟩:∃X,X=W':=⟨_,rfl⟩;try simp only[PT]
  exact sJ
 skip;refine⟨⟨_,rfl,by kernel_rfl,fun K hK=>?_⟩⟩;go_simp;replace BW:=BW.alloc BW.size (.map #[] 0);replace bW:=bW.alloc (.map #[] 0);replace F:=cJ F;refine hK _ _ ⟨⟨fun _=>bW,trivial⟩,?_⟩;clear hK K;obtain⟨m4,hm⟩:=ae W.heap.size;rw[hm]at F ⊢;obtain⟨W',hW'⟩:=ae (W.alloc (.map #[] 0));rw[hW']at BW bW F ⊢;clear hm hW' W;obtain⟨W,rfl⟩:∃X,X=W':=⟨_,rfl⟩;try simp only[PT]
 exact qF):P:=h
theorem wJ{P:Prop}(h:P:=by
 refine dM [0,2,3] (fun j hj=>?_);have hj:j=0\/j=2\/j=3:=by simpa using hj
 rcases hj with rfl | rfl | rfl
 ·refine⟨⟨_,rfl,by kernel_rfl,fun K hK=>?_⟩⟩;go_simp;refine(gw W).mono ?_;rintro e W' ⟨bk,rfl,hb⟩;replace BW:=BW.trans (hb.mono BW.size);replace bW:=bW.ag hb;replace F:=gy F hb;refine hK _ _ ⟨⟨fun _=>bW,trivial⟩,?_⟩;clear hK K hb W;obtain⟨W,rfl⟩:∃X,X=W':=⟨_,rfl⟩;try simp only[PT]
  exact sI
 ·refine⟨⟨_,rfl,by kernel_rfl,fun K hK=>?_⟩⟩;go_simp;replace BW:=BW.alloc BW.size (.map #[] 0);replace bW:=bW.alloc (.map #[] 0);replace F:=cJ F;refine hK _ _ ⟨⟨fun _=>bW,trivial⟩,?_⟩;clear hK K;obtain⟨m2,hm⟩:=ae W.heap.size;rw[hm]at F ⊢;obtain⟨W',hW'⟩:=ae (W.alloc (.map #[] 0));rw[hW']at BW bW F ⊢;clear hm hW' W;obtain⟨W,rfl⟩:∃X,X=W':=⟨_,rfl⟩;try simp only[PT]
  exact qE
 skip;refine⟨⟨_,rfl,by kernel_rfl,fun K hK=>?_⟩⟩;go_simp;replace BW:=BW.alloc BW.size (.map #[] 0);replace bW:=bW.alloc (.map #[] 0);replace F:=cJ F;refine hK _ _ ⟨⟨fun _=>bW,trivial⟩,?_⟩;clear hK K;obtain⟨m3,hm⟩:=ae W.heap.size;rw[hm]at F ⊢;obtain⟨W',hW'⟩:=ae (W.alloc (.map #[] 0));rw[hW']at BW bW F ⊢;clear hm hW' W;obtain⟨W,rfl⟩:∃X,X=W':=⟨_,rfl⟩;try simp only[PT]
 exact qF):P:=h
attribute [local go_sem] Oper.semAt_some
theorem jo{w:World}{m:Nat}{o:Obj}(h:w.heap[m]?=some o):m<w.heap.size:=(Array.getElem?_eq_some_iff.1 h).1
theorem lx(w:World)(o:Obj)(m:Nat)(h:m<w.heap.size):(w.alloc o).heap[m]?=w.heap[m]?:=((Below.refl w.heap.size w).alloc ah o).block m h
theorem jn{W:World}{ms:List Nat}(F:∀m∈ms,W.heap[m]?=some (.map #[] 0))(o:Obj):∀m∈ms,(W.alloc o).heap[m]?=some (.map #[] 0):=fun m hm=>(lx W o m (jo (F m hm))).trans (F m hm)
theorem gy{W W':World}{ms:List Nat}(F:∀m∈ms,W.heap[m]?=some (.map #[] 0))(hb:Below W.heap.size W W'):∀m∈ms,W'.heap[m]?=some (.map #[] 0):=fun m hm=>(hb.block m (jo (F m hm))).trans (F m hm)
theorem cJ{W:World}{ms:List Nat}(F:∀m∈ms,W.heap[m]?=some (.map #[] 0)):∀m∈W.heap.size::ms,(W.alloc (.map #[] 0)).heap[m]?=some (.map #[] 0):=fun m hm=>by
 rcases List.mem_cons.1 hm with rfl | hm
 ·exact World.alloc_heap_new W _
 exact jn F _ m hm
def Am(c:nS)(bk m2 m3 m4:Nat):Array Value:=#[.pointer (some ⟨bk,0,none⟩),.int .i64 c.bB,.int .i64 c.room,.int .i64 c.inbox,.int .i64 c.subs,.int .i64 c.cP,.int .i64 c.cQ,.string ⟨c.eY.toArray⟩,.int .i64 0,.map (some m2),.map (some m3),.map (some m4),.int .i64 0,.slice none 0 0,.slice none 0 0]
theorem Hr(c:nS)(bk m2 m3 m4:Nat)(W:World):(Instr.build 217 #[(0,.pointer (some ⟨bk,0,none⟩)),(1,.agg c.cl.toArray),(3,.map (some m2)),(4,.map (some m3)),(5,.map (some m4))]).run prog W=.ok (.agg (Am c bk m2 m3 m4)) W:=by kernel_rfl
structure Wt (w:World)(c:nS)(p:Nat)(wx:World):Prop where
 ag:Below w.heap.size w wx
 box:ar wx w.heap.size c.cl.toArray 27
 out:∃bk m2 m3 m4,ar wx p (Am c bk m2 m3 m4) 217/\wx.heap[m3]?=some (.map #[] 0)/\wx.heap[m4]?=some (.map #[] 0)
theorem Ao(win room most subs:Int)(client:List UInt8)(w:World)(hT:TzAt w)(eK:¬((1<=win/\win<=100)/\(1<=room/\room<=1000)/\(1<=most/\most<=1000)/\(1<=subs/\subs<=100))):
  Calls prog 167 #[.agg #[.int .i64 win,.int .i64 room,.int .i64 most,.int .i64 subs],.string ⟨client.toArray⟩] w (NoP w):=by
 have hB:Below w.heap.size w ((w.alloc (.cells #[.int .i64 win,.int .i64 room,.int .i64 most,.int .i64 subs] 25)).alloc (.cells (bE client 0 1).vals 136)):=by exact JX
 have KE:rF ((w.alloc (.cells #[.int .i64 win,.int .i64 room,.int .i64 most,.int .i64 subs] 25)).alloc (.cells (bE client 0 1).vals 136)) w.heap.size (.slice (some ⟨w.heap.size+1,0,none⟩) 1 1) [bE client 0 1]:=
  ⟨by simp[aP.uN],.inr ⟨w.heap.size+1,1,(bE client 0 1).vals,rfl,by omega,ar.jb _ _ _ _ (by simp),by simp,by decide,by simp[aP.vals],by simp[aP.cl,aP.vals]⟩⟩
 have CO:=af (Dx win room most subs client w.heap.size (w.heap.size+1) _ (hT.ag hB) KE eK);replace hB:=af hB;clear KE eK;unfold bE aP.vals at*
 go_enter func167,ntmps167;go_wp2_with (go_at_call 170;refine CO.mono ?_;rintro e w1 ⟨x,rfl,hb1⟩)
 go_returns
 exact⟨x,rfl,hB.trans (hb1.mono hB.size)⟩
theorem Sm(c:nS)(w:World)(hT:TzAt w):
  Calls prog 99 #[.agg c.cl.toArray,.slice none 0 0] w fun e w'=>∃x z,e=.returned (.tuple #[x,.int .i64 z])/\(z=0↔ot c)/\Below w.heap.size w w':=by
 have Fa:= @run_makeMap prog;obtain⟨cv,hcv⟩:=ae c.cl.toArray;have bX:ar (w.alloc (.cells c.cl.toArray 27)) w.heap.size c.cl.toArray 27:=ar.new _ _ _;have BX:Below w.heap.size w (w.alloc (.cells c.cl.toArray 27)):=ai.alloc ah _;have jL:Hid (∀bk m2 m3 m4 W,(Instr.build 217 #[(0,.pointer (some ⟨bk,0,none⟩)),(1,.agg cv),(3,.map (some m2)),(4,.map (some m3)),(5,.map (some m4))]).run prog W=.ok (.agg (Am c bk m2 m3 m4)) W):=af fun bk m2 m3 m4 W=>by rw[<-hcv];exact Hr c bk m2 m3 m4 W
 rw[hcv];go_enter func99,ntmps99;go_upto_region 1 with fail
 go_cut [6]from 20 (fun s6 wx=>∃p,s6=.pointer (some ⟨p,0,none⟩)/\Hid (Wt w c p wx))
 case first=>
  --BEG
  obtain⟨W0,hW0⟩:=ae (w.alloc (.cells c.cl.toArray 27));rw[hW0]at bX BX;rw[hcv]at hW0;rw[hW0];clear hW0;obtain⟨W,hW⟩:=ae W0.drew;have BW:Below w.heap.size w W:=by rw[<-hW];exact BX.drew
  have bW:ar W w.heap.size c.cl.toArray 27:=by rw[<-hW];exact bX
  refine aH [(1000,fun w'=>ar w' w.heap.size c.cl.toArray 27)] (by kernel_rfl) ⟨bX,trivial⟩ fun KQ aL=>?_;refine lR 1 0 rfl rfl rfl rfl (fun w' hf=>aM hf 27 underlying27 rfl (by kernel_rfl)) ?_;try simp only[PT]
  rw[hW];clear hW BX bX;have F:∀m∈([]:List Nat),W.heap[m]?=some (.map #[] 0):=by simp
  refine dM [0,2,3,4] (fun j hj=>?_);have hj:j=0\/j=2\/j=3\/j=4:=by simpa using hj
  rcases hj with rfl | rfl | rfl | rfl
  ·refine⟨⟨_,rfl,by kernel_rfl,fun K hK=>?_⟩⟩;go_simp;refine(gw W).mono ?_;rintro e W' ⟨bk,rfl,hb⟩;replace BW:=BW.trans (hb.mono BW.size);replace bW:=bW.ag hb;replace F:=gy F hb;refine hK _ _ ⟨⟨fun _=>bW,trivial⟩,?_⟩;clear hK K hb W;obtain⟨W,rfl⟩:∃X,X=W':=⟨_,rfl⟩;try simp only[PT]
   exact yB
  ·refine⟨⟨_,rfl,by kernel_rfl,fun K hK=>?_⟩⟩;go_simp;replace BW:=BW.alloc BW.size (.map #[] 0);replace bW:=bW.alloc (.map #[] 0);replace F:=cJ F;refine hK _ _ ⟨⟨fun _=>bW,trivial⟩,?_⟩;clear hK K;obtain⟨m2,hm⟩:=ae W.heap.size;rw[hm]at F ⊢;obtain⟨W',hW'⟩:=ae (W.alloc (.map #[] 0));rw[hW']at BW bW F ⊢;clear hm hW' W;obtain⟨W,rfl⟩:∃X,X=W':=⟨_,rfl⟩;try simp only[PT]
   exact wH
  ·refine⟨⟨_,rfl,by kernel_rfl,fun K hK=>?_⟩⟩;go_simp;replace BW:=BW.alloc BW.size (.map #[] 0);replace bW:=bW.alloc (.map #[] 0);replace F:=cJ F;refine hK _ _ ⟨⟨fun _=>bW,trivial⟩,?_⟩;clear hK K;obtain⟨m3,hm⟩:=ae W.heap.size;rw[hm]at F ⊢;obtain⟨W',hW'⟩:=ae (W.alloc (.map #[] 0));rw[hW']at BW bW F ⊢;clear hm hW' W;obtain⟨W,rfl⟩:∃X,X=W':=⟨_,rfl⟩;try simp only[PT]
   exact wI
  ·refine⟨⟨_,rfl,by kernel_rfl,fun K hK=>?_⟩⟩;go_simp;replace BW:=BW.alloc BW.size (.map #[] 0);replace bW:=bW.alloc (.map #[] 0);replace F:=cJ F;refine hK _ _ ⟨⟨fun _=>bW,trivial⟩,?_⟩;clear hK K;obtain⟨m4,hm⟩:=ae W.heap.size;rw[hm]at F ⊢;obtain⟨W',hW'⟩:=ae (W.alloc (.map #[] 0));rw[hW']at BW bW F ⊢;clear hm hW' W;obtain⟨W,rfl⟩:∃X,X=W':=⟨_,rfl⟩;try simp only[PT]
   exact wJ
  --END
 case rest=>
  obtain⟨p,rfl,hI⟩:=hcut;obtain⟨bk,m2,m3,m4,hP,h3,h4⟩:=hI.out.out;have hm:=hI.out.box.mid [] [.int .i64 c.bB,.int .i64 c.room,.int .i64 c.inbox,.int .i64 c.subs] [.int .i64 c.cP,.int .i64 c.cQ,.string ⟨c.eY.toArray⟩] rfl;by_cases iU:(1<=c.bB/\c.bB<=100)/\(1<=c.room/\c.room<=1000)/\(1<=c.inbox/\c.inbox<=1000)/\(1<=c.subs/\c.subs<=100)
  case neg=>
   have CS:=af (Ao c.bB c.room c.inbox c.subs [120] wc (hT.ag hI.out.ag) iU);have HBI:=af hI.out.ag;replace iU:=af iU;clear hI hP h3 h4;go_wp2_with (refine sF 25 rfl rfl hm underlying25 ?_);refine CS.mono ?_;rintro e w1 ⟨x,rfl,hb1⟩;have gH:=af (HBI.trans (hb1.mono HBI.size));clear hb1 hm;go_wp2_with fail
   go_returns
   exact⟨_,2,rfl,⟨fun h=>(by cases h),fun h=>absurd ⟨h.1,h.2.1,h.2.2.1,h.2.2.2.1⟩ iU.out⟩,gH.out⟩
  obtain⟨hc1,hc2,hc3,Jv⟩:=iU;have CS:=af (Oj c.bB c.room c.inbox c.subs [120] wc (hT.ag hI.out.ag) hc1 hc2 hc3 Jv (by decide) (by kernel_rfl));go_wp2_with (refine sF 25 rfl rfl hm underlying25 ?_)
  refine CS.mono ?_;rintro e w1 ⟨S,rfl, -,hst⟩;have hb1:Below wc.heap.size wc w1:=hst.wrote.ag ah (fun x hx=>by cases hx);have gH:=af (hI.out.ag.trans (hb1.mono hI.out.ag.size));have HP1:=af (hP.ag hb1);have H3:=af ((hb1.block m3 (jo h3)).trans h3);have H4:=af ((hb1.block m4 (jo h4)).trans h4);have kI:=hI.out.box.ag hb1;have k4:w1.cell? ⟨w.heap.size,4,none⟩=some (.int .i64 c.cP):=kI.cell 4;have k5:w1.cell? ⟨w.heap.size,5,none⟩=some (.int .i64 c.cQ):=kI.cell 5;have k6:w1.cell? ⟨w.heap.size,6,none⟩=some (.string ⟨c.eY.toArray⟩):=kI.cell 6;have HX:=af kI;have CW:=af Du;have Cc:Hid (1<=c.cP/\c.cP<=40->0<=c.cQ/\c.cQ<=1000->c.eY.length<=200->ot c):=af fun a b d=>⟨hc1,hc2,hc3,Jv,a,b,d⟩;clear hm hP h3 h4 hst hb1 kI CS hc1 hc2 hc3 Jv;by_cases hs1:1<=c.cP
  case neg=>
   clear Cc;go_wp2_with (go_at_call 168;refine(CW _ _ _ _).mono ?_;rintro e w' ⟨rfl,rfl⟩)
   go_returns
   exact⟨_,2,rfl,⟨fun h=>(by cases h),fun h=>(by have h9:=h.2.2.2.2.1.1;omega)⟩,gH.out⟩
  by_cases hs2:c.cP<=40
  case neg=>
   clear Cc;go_wp2_with (go_at_call 168;refine(CW _ _ _ _).mono ?_;rintro e w' ⟨rfl,rfl⟩)
   go_returns
   exact⟨_,2,rfl,⟨fun h=>(by cases h),fun h=>(by have h9:=h.2.2.2.2.1.2;omega)⟩,gH.out⟩
  by_cases hr1:0<=c.cQ
  case neg=>
   clear Cc;go_wp2_with (go_at_call 168;refine(CW _ _ _ _).mono ?_;rintro e w' ⟨rfl,rfl⟩)
   go_returns
   exact⟨_,2,rfl,⟨fun h=>(by cases h),fun h=>(by have h9:=h.2.2.2.2.2.1.1;omega)⟩,gH.out⟩
  by_cases hr2:c.cQ<=1000
  case neg=>
   clear Cc;go_wp2_with (go_at_call 168;refine(CW _ _ _ _).mono ?_;rintro e w' ⟨rfl,rfl⟩)
   go_returns
   exact⟨_,2,rfl,⟨fun h=>(by cases h),fun h=>(by have h9:=h.2.2.2.2.2.1.2;omega)⟩,gH.out⟩
  by_cases tJ:c.eY.length<=200
  case neg=>
   have d7:decide (200<(c.eY.length:Int))=true:=decide_eq_true (by omega);clear Cc;go_wp2_with (go_at_call 168;refine(CW _ _ _ _).mono ?_;rintro e w' ⟨rfl,rfl⟩)
   go_returns
   exact⟨_,2,rfl,⟨fun h=>(by cases h),fun h=>(by have h9:=h.2.2.2.2.2.2;omega)⟩,gH.out⟩
  have Cc:=af (Cc ⟨hs1,hs2⟩ ⟨hr1,hr2⟩ tJ);go_wp2_with (go_at_call 168;refine(CW _ _ _ _).mono ?_;rintro e w' ⟨rfl,rfl⟩)
  obtain⟨m5,OC⟩:=ae w1.heap.size;have h5:=World.alloc_heap_new w1 (.map #[] 0);have B2:=gH.alloc gH.size (.map #[] 0);have P2:=HP1.alloc (.map #[] 0);have X2:=HX.alloc (.map #[] 0);have h3:=(lx w1 (.map #[] 0) m3 (jo H3.out)).trans H3.out;have h4:=(lx w1 (.map #[] 0) m4 (jo H4.out)).trans H4.out;rw[OC]at h5;rw[OC];obtain⟨w2,hw2⟩:=ae (w1.alloc (.map #[] 0));rw[hw2]at h5 B2 P2 X2 h3 h4 ⊢;clear hw2 OC k4 k5 k6 HX HP1 H3 H4;replace B2:=af B2;replace P2:=af P2;replace X2:=af X2;replace h3:=af h3;replace h4:=af h4;go_loopw [56] (fun i wr=>i=.int .i64 0/\w2=wr) (fun _ _=>0)
  case atStart=>exact⟨rfl,rfl⟩
  case round=>
   obtain⟨rfl,rfl⟩:=hrel;have hrg:=uB (P:=prog) underlying222 h5;obtain⟨r,hr⟩:=ae w2.heap.size;have hit:=World.alloc_heap_new w2 (.mapIter (some m5) 0 #[] 0);have h53:=(lx w2 (.mapIter (some m5) 0 #[] 0) m5 (jo h5)).trans h5;have B3:=B2.alloc B2.size (.mapIter (some m5) 0 #[] 0);have P3:=P2.alloc (.mapIter (some m5) 0 #[] 0);have X3:=X2.alloc (.mapIter (some m5) 0 #[] 0);have Zo:=(lx w2 (.mapIter (some m5) 0 #[] 0) m3 (jo h3.out)).trans h3.out;have Zp:=(lx w2 (.mapIter (some m5) 0 #[] 0) m4 (jo h4.out)).trans h4.out;rw[hr]at hrg hit;obtain⟨w3,hw3⟩:=ae (w2.alloc (.mapIter (some m5) 0 #[] 0));rw[hw3]at hrg hit h53 B3 P3 X3 Zo Zp;have oT:=fun ty=>wj (P:=prog) (ty:=ty) hit h53;clear hw3 hr;replace B3:=af B3;replace P3:=af P3;replace X3:=af X3;replace Zo:=af Zo;replace Zp:=af Zp;clear h3 h4;go_wp2_with fail;go_loopw [14] (fun _ wr=>w3=wr) (fun _ _=>0)
   case atStart=>rfl
   case round=>
    subst hrel;go_wp2_with fail;have d1:decide (c.cP<0)=false:=decide_eq_false (by omega);have d2:decide (c.cQ<0)=false:=decide_eq_false (by omega);refine aH [(1000,fun w'=>ar w' p (Am c bk m2 m3 m4) 217),(1000,fun w'=>ar w' w.heap.size c.cl.toArray 27),(1000,fun w'=>w'.heap[m3]?=some (.map #[] 0)),(1000,fun w'=>w'.heap[m4]?=some (.map #[] 0))] (by kernel_rfl) ⟨P3.out,X3.out,Zo.out,Zp.out,trivial⟩ fun KQ aL=>?_;refine tQ [0] ?_;refine nQ 1 ?_;refine tQ [2] ?_;refine lR 3 0 rfl rfl rfl rfl (fun w' hf=>by(have k0:w'.cell? ⟨p,10,none⟩=some (.map (some m3)):=hf.cell 10;go_simp<;>with_reducible rfl)) ?_;simp only[PT];refine VU 4 2 rfl rfl rfl rfl (fun w' hf=>qf underlying211 hf _) ?_;try simp only[PT]
    refine tQ [5] ?_;refine lR 6 1 rfl rfl rfl rfl (fun w' hf=>by(have k0:w'.cell? ⟨w.heap.size,4,none⟩=some (.int .i64 c.cP):=hf.cell 4;go_simp<;>with_reducible rfl)) ?_;simp only[PT];refine tQ [7,8,9] ?_;refine nQ 10 ?_;refine tQ [11] ?_;refine lR 12 0 rfl rfl rfl rfl (fun w' hf=>by(have k0:w'.cell? ⟨p,11,none⟩=some (.map (some m4)):=hf.cell 11;go_simp<;>with_reducible rfl)) ?_;simp only[PT];refine VU 13 3 rfl rfl rfl rfl (fun w' hf=>qf underlying212 hf _) ?_;try simp only[PT]
    refine tQ [14] ?_;refine lR 15 1 rfl rfl rfl rfl (fun w' hf=>by(have k0:w'.cell? ⟨w.heap.size,5,none⟩=some (.int .i64 c.cQ):=hf.cell 5;go_simp<;>with_reducible rfl)) ?_;simp only[PT];refine tQ [16,17] ?_;refine dQ (aL.out _ _ ?_);clear aL KQ;go_wp2_with fail
    go_ret2
    exact⟨_,0,rfl,⟨fun _=>Cc.out,fun _=>rfl⟩,B3.drew⟩
theorem OD(c:nS)(w:World)(hT:TzAt w):
  Calls prog 74 #[.agg c.cl.toArray] w fun e w'=>∃x z,e=.returned (.tuple #[x,.int .i64 z])/\(z=0↔ot c)/\Below w.heap.size w w':=by
 have bX:ar (w.alloc (.cells c.cl.toArray 27)) w.heap.size c.cl.toArray 27:=ar.new _ _ _;have BX:Below w.heap.size w (w.alloc (.cells c.cl.toArray 27)):=ai.alloc ah _;have CO:=af (Sm c _ (hT.ag BX));have hs:=BX.size;have BX:=af BX;go_enter func74,ntmps74;go_wp2_with (refine wL 27 rfl rfl bX underlying27 ?_)
 refine CO.mono ?_;rintro e w1 ⟨x,z,rfl,hz,hb⟩;have HB:=af (BX.trans (hb.mono hs));replace hz:=af hz;clear hb;go_wp2_with fail
 go_ret2
 exact⟨x,z,rfl,hz.out,HB.out⟩
end
section
attribute [local go_sem] Oper.semAt_some
structure wK (F:List Nat)(p:Nat)(l m:List UInt8)(w:World)(e:Ending)(w':World):Prop where
 out:∃F',gO F F' w w'/\((fits l m=true/\e=.returned (.tuple #[])/\Wr w' F' p (l++m))\/(fits l m=false/\e=.panicked (given 3)))
theorem DG{w:World}{F:List Nat}{p:Nat}{l:List UInt8}(h:Wr w F p l)(hl:l.length<=65536)(t:Tn)(h3:H3)(hp:Hd)(hs:t.bytes.length<=65535):
  Calls prog 60 #[.agg #[.pointer (some ⟨p,0,none⟩)],.agg (t.cells h3 hp).toArray] w (wK F p l (aI t.bytes) w):=by
 obtain⟨cs,hcs⟩:=ae ((t.cells h3 hp).toArray);obtain⟨W0,hW0⟩:=ae ((w.alloc (.cells #[.pointer (some ⟨p,0,none⟩)] 102)).alloc (.cells cs 55));have b1:ar W0 w.heap.size #[.pointer (some ⟨p,0,none⟩)] 102:=by rw[<-hW0];exact(ar.new _ _ _).alloc _
 have b2:ar W0 (w.heap.size+1) cs 55:=by rw[<-hW0];have:=ar.new (w.alloc (.cells #[.pointer (some ⟨p,0,none⟩)] 102)) cs 55;simpa using this
 have B0:Below w.heap.size w W0:=by rw[<-hW0];exact(ai.alloc ah _).alloc (by simp) _
 have OA:W0.cell? ⟨w.heap.size+1,26,none⟩=some (.string ⟨t.bytes.toArray⟩):=by rw[b2.cell,<-hcs];rfl
 have CT:=af (vd (h.ag B0) hl t.bytes (by omega));have S0:=af (gO.ag (F:=F) B0);have hs':=af hs;rw[hcs];clear hcs b2 hs B0;replace hl:=af hl;go_enter func60,ntmps60;go_wp2_with (refine wL 102 rfl rfl b1 underlying102 ?_)
 refine CT.mono ?_;rintro e w1 ⟨F1,hs1,⟨⟨_,hf⟩,rfl,bL⟩ | ⟨hf,rfl⟩⟩
 ·have H:=af (show wK F p l (aI t.bytes) w (.returned (.tuple #[])) w1 from⟨F1,S0.trans hs1,.inl ⟨hf,rfl,bL⟩⟩);clear hs1 hf bL;go_wp2_with fail
  go_end0
  exact H.out
 refine⟨rfl,⟨F1,S0.trans hs1,.inr ⟨?_,rfl⟩⟩⟩;cases hx:fits l (aI t.bytes)with
 | false=>rfl
 | true=>exact absurd ⟨hs'.out,hx⟩ hf
theorem iW(l a b:List UInt8):fits l (a++b)=(fits l a&&fits (l++a) b):=by unfold fits;rw[Bool.eq_iff_iff];simp only[decide_eq_true_eq,Bool.and_eq_true,List.length_append];omega
theorem DI{w:World}{F:List Nat}{p:Nat}{l:List UInt8}(h:Wr w F p l)(hl:l.length<=65536)(t:Tn)(h3:H3)(hp:Hd)(ha:0<=t.arm/\t.arm<=2)(hn: -1<=t.n/\t.n<65535):
  Calls prog 64 #[.agg #[.pointer (some ⟨p,0,none⟩)],.agg (t.cells h3 hp).toArray] w (wK F p l (ay 1 t.arm.toNat++ay 2 (t.n+1).toNat) w):=by
 obtain⟨cs,hcs⟩:=ae ((t.cells h3 hp).toArray);obtain⟨W0,hW0⟩:=ae ((w.alloc (.cells #[.pointer (some ⟨p,0,none⟩)] 102)).alloc (.cells cs 55));have b1:ar W0 w.heap.size #[.pointer (some ⟨p,0,none⟩)] 102:=by rw[<-hW0];exact(ar.new _ _ _).alloc _
 have b2:ar W0 (w.heap.size+1) cs 55:=by rw[<-hW0];have:=ar.new (w.alloc (.cells #[.pointer (some ⟨p,0,none⟩)] 102)) cs 55;simpa using this
 have B0:Below w.heap.size w W0:=by rw[<-hW0];exact(ai.alloc ah _).alloc (by simp) _
 have Jt:W0.cell? ⟨w.heap.size+1,27,none⟩=some (.int .i64 t.arm):=by rw[b2.cell,<-hcs];rfl
 have hF:=h.lt;have hs0:=B0.size;obtain⟨za,Wu⟩:=ae t.arm;obtain⟨zn,Ju⟩:=ae t.n;have kn:Hid (∀W,ar W (w.heap.size+1) cs 55->W.cell? ⟨w.heap.size+1,28,none⟩=some (.int .i64 zn)):=af fun W hb=>by rw[hb.cell,<-hcs,<-Ju];rfl
 rw[Wu]at Jt ha ⊢;rw[Ju]at hn ⊢;have C1:=af (fY (h:=(h.ag B0).alloc (.cells #[.int .i64 za] 3)) hl 1 (by decide) (by decide) [za] (by intro z hz;simp at hz;subst hz;simp;omega) (some ⟨W0.heap.size,0,none⟩) 1 1 (aW.one W0 za 3) (fun _ x hx hm=>by cases hx;have:=hF _ hm;simp at this;omega) (by decide));have S0:=af (gO.ag (F:=F) (B0.alloc hs0 (.cells #[.int .i64 za] 3)));have gH:=af (b1.alloc (.cells #[.int .i64 za] 3));have rf:=af (b2.alloc (.cells #[.int .i64 za] 3));have hF:=af hF;rw[hcs];clear hcs Wu Ju;have ha:=af ha;replace hl:=af hl;go_enter func64,ntmps64;go_wp2_with (refine wL 102 rfl rfl b1 underlying102 ?_)
 refine C1.mono ?_;rintro e w1 ⟨F1,hs1,⟨Jw,rfl,bL⟩ | ⟨Jw,rfl⟩⟩
 ·have vk:fits l (ay 1 za.toNat)=true:=by simpa using Jw
  have Hs:Wr w1 F1 p (l++ay 1 za.toNat):=by simpa using bL
  have xj:(l++ay 1 za.toNat).length<=65536:=by unfold fits at vk;rw[decide_eq_true_eq]at vk;rw[List.length_append];exact vk
  have Qw:=gH.aw hs1.wrote (fun hx=>by have:=hF _ hx;omega);have U2:=rf.aw hs1.wrote (fun hx=>by have:=hF _ hx;omega);have Nn:=kn w1 U2;have C2:=af (fY (h:=Hs.alloc (.cells #[.int .i64 (zn+1)] 3)) xj 2 (by decide) (by decide) [zn+1] (by intro z hz;simp at hz;subst hz;simp;omega) (some ⟨w1.heap.size,0,none⟩) 1 1 (aW.one w1 (zn+1) 3) (fun _ x hx hm=>by cases hx;have:=Hs.lt _ hm;simp at this) (by decide));have S1:=af (S0.trans (hs1.trans (gO.ag (F:=F1) ((Below.refl w1.heap.size w1).alloc ah (.cells #[.int .i64 (zn+1)] 3)))));have Wv:=af vk;have hz1: -9223372036854775808<=zn+1:=by omega
  have hz2:zn+1<=9223372036854775807:=by omega
  clear Jw bL vk Hs xj b1 b2 U2 hs1 hn Jt;go_wp2_with (refine wL 102 rfl rfl Qw underlying102 ?_);refine C2.mono ?_;rintro e w2 ⟨F2,hs2,⟨hf2,rfl,hw2⟩ | ⟨hf2,rfl⟩⟩
  ·have H:=af (show wK F p l (ay 1 za.toNat++ay 2 (zn+1).toNat) w (.returned (.tuple #[])) w2 from⟨F2,S1.trans hs2,.inl ⟨by rw[iW,Wv.out,Bool.true_and];simpa using hf2,rfl,by simpa using hw2⟩⟩)
   clear hs2 hf2 hw2;go_wp2_with fail
   go_end0
   exact H.out
  refine⟨rfl,⟨F2,S1.trans hs2,.inr ⟨?_,rfl⟩⟩⟩;rw[iW,Wv.out,Bool.true_and];simpa using hf2
 refine⟨rfl,⟨F1,S0.trans hs1,.inr ⟨?_,rfl⟩⟩⟩;rw[iW];have h7:fits l (ay 1 za.toNat)=false:=by simpa using Jw
 rw[h7,Bool.false_and]
theorem aW.wrote{α:Type}{f:α->List Value}{size:Nat}{w w':World}{a:Option Addr}{n cap:Nat}{xs:List α}(h:aW f size w a n cap xs){M:List Nat}(hw:ak M w w')(hM:xs≠[]->∀x,a=some x->x.block∉M):aW f size w' a n cap xs:=
 ⟨h.len,h.le,h.max,fun i x hx=>by obtain⟨g,off,ha,hg,hr⟩:=h.eM i x hx;refine⟨g,off,ha,Nat.lt_of_lt_of_le hg hw.size,fun j v hj=>?_⟩;rw[<-hr j v hj];unfold World.cell?;rw[hw.block g hg (hM (by rintro rfl;simp at hx) _ ha)]⟩
theorem DJ{w:World}{F:List Nat}{p:Nat}{l:List UInt8}(h:Wr w F p l)(hl:l.length<=65536)(t:Tn)(h3:H3)(hp:Hd)(hi:aW jD 1 w hp.a hp.n hp.c t.bf)(Zq:t.bf≠[]->∀x,hp.a=some x->x.block∉F)(ha:t.bf.length<=255)(hn:∀z∈t.bf,0<=z/\z<=255):
  Calls prog 71 #[.agg #[.pointer (some ⟨p,0,none⟩)],.agg (t.cells h3 hp).toArray] w (wK F p l (ay 1 t.bf.length++t.bf.flatMap fun z=>ay 1 z.toNat) w):=by
 obtain⟨cs,hcs⟩:=ae ((t.cells h3 hp).toArray);obtain⟨W0,hW0⟩:=ae ((w.alloc (.cells #[.pointer (some ⟨p,0,none⟩)] 102)).alloc (.cells cs 55));have b1:ar W0 w.heap.size #[.pointer (some ⟨p,0,none⟩)] 102:=by rw[<-hW0];exact(ar.new _ _ _).alloc _
 have b2:ar W0 (w.heap.size+1) cs 55:=by rw[<-hW0];have:=ar.new (w.alloc (.cells #[.pointer (some ⟨p,0,none⟩)] 102)) cs 55;simpa using this
 have B0:Below w.heap.size w W0:=by rw[<-hW0];exact(ai.alloc ah _).alloc (by simp) _
 have Fx:W0.cell? ⟨w.heap.size+1,29,none⟩=some (.slice hp.a hp.n hp.c):=by rw[b2.cell,<-hcs];rfl
 have kn:Hid (∀W,ar W (w.heap.size+1) cs 55->W.cell? ⟨w.heap.size+1,29,none⟩=some (.slice hp.a hp.n hp.c)):=af fun W hb=>by rw[hb.cell,<-hcs];rfl
 have hF:=h.lt;have hs0:=B0.size;have Qq:=hi.len;rw[Qq]at ha ⊢;obtain⟨za,Wu⟩:∃z:Int,z=(hp.n:Int):=⟨_,rfl⟩;have C1:=fY (h:=(h.ag B0).alloc (.cells #[.int .i64 za] 3)) hl 1 (by decide) (by decide) [za] (by intro z hz;simp at hz;subst hz;simp;omega) (some ⟨W0.heap.size,0,none⟩) 1 1 (aW.one W0 za 3) (fun _ x hx hm=>by cases hx;have:=hF _ hm;simp at this;omega) (by decide);rw[Wu]at C1;replace C1:=af C1;have S0:=af (gO.ag (F:=F) (B0.alloc hs0 (.cells #[.int .i64 (hp.n:Int)] 3)));have gH:=af (b1.alloc (.cells #[.int .i64 (hp.n:Int)] 3));have rf:=af (b2.alloc (.cells #[.int .i64 (hp.n:Int)] 3));have HI:=af ((hi.ag B0).ag (ai.alloc ah (.cells #[.int .i64 (hp.n:Int)] 3)));have hF:=af hF;have Zq:=af Zq;rw[hcs];clear hcs Wu;replace ha:=af ha;replace hl:=af hl;replace hn:=af hn;go_enter func71,ntmps71;go_wp2_with (refine wL 102 rfl rfl b1 underlying102 ?_)
 refine C1.mono ?_;rintro e w1 ⟨F1,hs1,⟨Jw,rfl,bL⟩ | ⟨Jw,rfl⟩⟩
 ·have vk:fits l (ay 1 hp.n)=true:=by simpa using Jw
  have Hs:Wr w1 F1 p (l++ay 1 hp.n):=by simpa using bL
  have xj:(l++ay 1 hp.n).length<=65536:=by unfold fits at vk;rw[decide_eq_true_eq]at vk;rw[List.length_append];exact vk
  have Qw:=gH.aw hs1.wrote (fun hx=>by have:=hF _ hx;omega);have U2:=rf.aw hs1.wrote (fun hx=>by have:=hF _ hx;omega);have agO:=kn w1 U2;have abi:t.bf≠[]->∀x,hp.a=some x->x.block∉F1:=fun hne x hx=>by obtain⟨y,hy⟩:∃y,t.bf[0]?=some y:=⟨_,List.getElem?_eq_getElem (List.length_pos_iff.2 hne)⟩;obtain⟨g,off,e,hg, -⟩:=HI.eM 0 y hy;rw[hx]at e;cases e;exact hs1.not (Zq hne _ hx) hg
  have C2:=af (fY (h:=Hs) xj 1 (by decide) (by decide) t.bf (fun z hz=>by have:=hn z hz;simp;omega) hp.a hp.n hp.c (HI.wrote hs1.wrote Zq.out) abi (by have:=ha.out;omega));have S1:=af (S0.trans hs1);have Wv:=af vk;clear Jw bL vk Hs xj b1 b2 U2 hs1 Fx;go_wp2_with (refine wL 102 rfl rfl Qw underlying102 ?_);refine C2.mono ?_;rintro e w2 ⟨F2,hs2,⟨hf2,rfl,hw2⟩ | ⟨hf2,rfl⟩⟩
  ·have H:=af (show wK F p l (ay 1 hp.n++t.bf.flatMap fun z=>ay 1 z.toNat) w (.returned (.tuple #[])) w2 from⟨F2,S1.trans hs2,.inl ⟨by rw[iW,Wv.out,Bool.true_and];exact hf2,rfl,by rw[<-List.append_assoc];exact hw2⟩⟩)
   clear hs2 hf2 hw2;go_wp2_with fail
   go_end0
   exact H.out
  refine⟨rfl,⟨F2,S1.trans hs2,.inr ⟨?_,rfl⟩⟩⟩;rw[iW,Wv.out,Bool.true_and];exact hf2
 refine⟨rfl,⟨F1,S0.trans hs1,.inr ⟨?_,rfl⟩⟩⟩;rw[iW];have h7:fits l (ay 1 hp.n)=false:=by simpa using Jw
 rw[h7,Bool.false_and]
def iI(p:Pk):Array Value:=#[.int .i64 p.kind,.bool p.dup,.bool p.retain,.bool p.clean,.bool p.hasWill,.bool p.hasUser,.bool p.hasPass,.bool p.present,.int .i64 p.qos,.int .i64 p.code,.int .i64 p.id,.int .i64 p.keep,.string ⟨(p.topic).toArray⟩,.string ⟨(p.body).toArray⟩,.string ⟨(p.client).toArray⟩,.string ⟨(p.user).toArray⟩,.string ⟨(p.pass).toArray⟩,.string ⟨(p.will.topic).toArray⟩,.string ⟨(p.will.body).toArray⟩,.int .i64 p.will.qos,.bool p.will.retain]
theorem Ht (a0 b0:Int) (a1 b1:Bool) (a2 b2:Bool) (a3 b3:Bool) (a4 b4:Bool) (a5 b5:Bool) (a6 b6:Bool) (a7 b7:Bool) (a8 b8:Int) (a9 b9:Int) (Zr DK:Int) (Zs Qw:Int) (a12 Jy:List UInt8) (Ww Zt:List UInt8) (Zu KV:List UInt8) (Zv OE:List UInt8) (Zw Zx:List UInt8) (Zy Zz:List UInt8) (ZA ZB:List UInt8) (ZC ZE:Int) (a20 ZF:Bool) (W:World):(binOp .eql 174 (.agg #[.int .i64 a0,.bool a1,.bool a2,.bool a3,.bool a4,.bool a5,.bool a6,.bool a7,.int .i64 a8,.int .i64 a9,.int .i64 Zr,.int .i64 Zs,.string ⟨(a12).toArray⟩,.string ⟨(Ww).toArray⟩,.string ⟨(Zu).toArray⟩,.string ⟨(Zv).toArray⟩,.string ⟨(Zw).toArray⟩,.string ⟨(Zy).toArray⟩,.string ⟨(ZA).toArray⟩,.int .i64 ZC,.bool a20]) (.agg #[.int .i64 b0,.bool b1,.bool b2,.bool b3,.bool b4,.bool b5,.bool b6,.bool b7,.int .i64 b8,.int .i64 b9,.int .i64 DK,.int .i64 Qw,.string ⟨(Jy).toArray⟩,.string ⟨(Zt).toArray⟩,.string ⟨(KV).toArray⟩,.string ⟨(OE).toArray⟩,.string ⟨(Zx).toArray⟩,.string ⟨(Zz).toArray⟩,.string ⟨(ZB).toArray⟩,.int .i64 ZE,.bool ZF])).run prog W=.ok (.bool (decide (a0=b0)&&decide (a1=b1)&&decide (a2=b2)&&decide (a3=b3)&&decide (a4=b4)&&decide (a5=b5)&&decide (a6=b6)&&decide (a7=b7)&&decide (a8=b8)&&decide (a9=b9)&&decide (Zr=DK)&&decide (Zs=Qw)&&decide (a12=Jy)&&decide (Ww=Zt)&&decide (Zu=KV)&&decide (Zv=OE)&&decide (Zw=Zx)&&decide (Zy=Zz)&&decide (ZA=ZB)&&decide (ZC=ZE)&&decide (a20=ZF))) W:=by
 go_simp;by_cases h0:a0=b0
 ·subst h0;by_cases h1:a1=b1
  ·subst h1;by_cases h2:a2=b2
   ·subst h2;by_cases h3:a3=b3
    ·subst h3;by_cases h4:a4=b4
     ·subst h4;by_cases h5:a5=b5
      ·subst h5;by_cases h6:a6=b6
       ·subst h6;by_cases h7:a7=b7
        ·subst h7;by_cases h8:a8=b8
         ·subst h8;by_cases h9:a9=b9
          ·subst h9;by_cases h10:Zr=DK
           ·subst h10;by_cases h11:Zs=Qw
            ·subst h11;by_cases h12:a12=Jy
             ·subst h12;by_cases h13:Ww=Zt
              ·subst h13;by_cases ZG:Zu=KV
               ·subst ZG;by_cases h15:Zv=OE
                ·subst h15;by_cases h16:Zw=Zx
                 ·subst h16;by_cases h17:Zy=Zz
                  ·subst h17;by_cases h18:ZA=ZB
                   ·subst h18;by_cases Wx:ZC=ZE
                    ·subst Wx;by_cases h20:a20=ZF
                     ·subst h20;simp
                     simp[h20]
                    simp[Wx]
                   simp[h18]
                  simp[h17]
                 simp[h16]
                simp[h15]
               simp[ZG]
              simp[h13]
             simp[h12]
            simp[h11]
           simp[h10]
          simp[h9]
         simp[h8]
        simp[h7]
       simp[h6]
      simp[h5]
     simp[h4]
    simp[h3]
   simp[h2]
  simp[h1]
 simp[h0]
theorem Hu(p:Pk):∀v∈(iI p).toList,v.oneCell'=true:=by intro v hv;simp only[iI,List.mem_cons,List.not_mem_nil,or_false]at hv;rcases hv with h | h | h | h | h | h | h | h | h | h | h | h | h | h | h | h | h | h | h | h | h<;>(subst h;rfl)
theorem Ap(p:Pk)(W:World):(Instr.build 174 #[(0,.int .i64 p.kind),(1,.bool p.dup),(2,.bool p.retain),(3,.bool p.clean),(4,.bool p.hasWill),(5,.bool p.hasUser),(6,.bool p.hasPass),(7,.bool p.present),(8,.int .i64 p.qos),(9,.int .i64 p.code),(10,.int .i64 p.id),(11,.int .i64 p.keep),(12,.string ⟨p.topic.toArray⟩),(13,.string ⟨p.body.toArray⟩),(14,.string ⟨p.client.toArray⟩),(15,.string ⟨p.user.toArray⟩),(16,.string ⟨p.pass.toArray⟩),(17,.agg #[.string ⟨p.will.topic.toArray⟩,.string ⟨p.will.body.toArray⟩,.int .i64 p.will.qos,.bool p.will.retain])]).run prog W=.ok (.agg (iI p)) W:=by kernel_rfl
def U3:Array Value:=iI (aN 0)
theorem Fy(p:Pk)(h:H3)(w:World):Calls prog 107 #[.agg (p.cells h).toArray] w fun e w'=>e=.returned (.agg (iI p))/\Below w.heap.size w w':=by
 obtain⟨cs,hcs⟩:=ae ((p.cells h).toArray);have hB:ar (w.alloc (.cells cs 52)) w.heap.size cs 52:=ar.new _ _ _;have jC:ar ((w.alloc (.cells cs 52)).alloc (.cells U3 174)) w.heap.size cs 52:=hB.alloc _;have hZ:ar ((w.alloc (.cells cs 52)).alloc (.cells U3 174)) (w.heap.size+1) U3 174:=by have:=ar.new (w.alloc (.cells cs 52)) U3 174;simpa using this
 have hb2:Below w.heap.size w ((w.alloc (.cells cs 52)).alloc (.cells U3 174)):=(ai.alloc ah _).alloc (by simp) _;have k0:∀o,((w.alloc (.cells cs 52)).alloc o).cell? ⟨w.heap.size,0,none⟩=some (.int .i64 p.kind):=fun o=>by rw[(hB.alloc o).cell,<-hcs];rfl
 have k1:∀o,((w.alloc (.cells cs 52)).alloc o).cell? ⟨w.heap.size,1,none⟩=some (.bool p.dup):=fun o=>by rw[(hB.alloc o).cell,<-hcs];rfl
 have k2:∀o,((w.alloc (.cells cs 52)).alloc o).cell? ⟨w.heap.size,2,none⟩=some (.bool p.retain):=fun o=>by rw[(hB.alloc o).cell,<-hcs];rfl
 have k8:∀o,((w.alloc (.cells cs 52)).alloc o).cell? ⟨w.heap.size,8,none⟩=some (.bool p.clean):=fun o=>by rw[(hB.alloc o).cell,<-hcs];rfl
 have gI:∀o,((w.alloc (.cells cs 52)).alloc o).cell? ⟨w.heap.size,10,none⟩=some (.bool p.hasWill):=fun o=>by rw[(hB.alloc o).cell,<-hcs];rfl
 have Fz:∀o,((w.alloc (.cells cs 52)).alloc o).cell? ⟨w.heap.size,15,none⟩=some (.bool p.hasUser):=fun o=>by rw[(hB.alloc o).cell,<-hcs];rfl
 have yC:∀o,((w.alloc (.cells cs 52)).alloc o).cell? ⟨w.heap.size,16,none⟩=some (.bool p.hasPass):=fun o=>by rw[(hB.alloc o).cell,<-hcs];rfl
 have U4:∀o,((w.alloc (.cells cs 52)).alloc o).cell? ⟨w.heap.size,19,none⟩=some (.bool p.present):=fun o=>by rw[(hB.alloc o).cell,<-hcs];rfl
 have k3:∀o,((w.alloc (.cells cs 52)).alloc o).cell? ⟨w.heap.size,3,none⟩=some (.int .i64 p.qos):=fun o=>by rw[(hB.alloc o).cell,<-hcs];rfl
 have Qx:∀o,((w.alloc (.cells cs 52)).alloc o).cell? ⟨w.heap.size,20,none⟩=some (.int .i64 p.code):=fun o=>by rw[(hB.alloc o).cell,<-hcs];rfl
 have k6:∀o,((w.alloc (.cells cs 52)).alloc o).cell? ⟨w.heap.size,6,none⟩=some (.int .i64 p.id):=fun o=>by rw[(hB.alloc o).cell,<-hcs];rfl
 have k9:∀o,((w.alloc (.cells cs 52)).alloc o).cell? ⟨w.heap.size,9,none⟩=some (.int .i64 p.keep):=fun o=>by rw[(hB.alloc o).cell,<-hcs];rfl
 have k4:∀o,((w.alloc (.cells cs 52)).alloc o).cell? ⟨w.heap.size,4,none⟩=some (.string ⟨p.topic.toArray⟩):=fun o=>by rw[(hB.alloc o).cell,<-hcs];rfl
 have k5:∀o,((w.alloc (.cells cs 52)).alloc o).cell? ⟨w.heap.size,5,none⟩=some (.string ⟨p.body.toArray⟩):=fun o=>by rw[(hB.alloc o).cell,<-hcs];rfl
 have k7:∀o,((w.alloc (.cells cs 52)).alloc o).cell? ⟨w.heap.size,7,none⟩=some (.string ⟨p.client.toArray⟩):=fun o=>by rw[(hB.alloc o).cell,<-hcs];rfl
 have KX:∀o,((w.alloc (.cells cs 52)).alloc o).cell? ⟨w.heap.size,17,none⟩=some (.string ⟨p.user.toArray⟩):=fun o=>by rw[(hB.alloc o).cell,<-hcs];rfl
 have Jz:∀o,((w.alloc (.cells cs 52)).alloc o).cell? ⟨w.heap.size,18,none⟩=some (.string ⟨p.pass.toArray⟩):=fun o=>by rw[(hB.alloc o).cell,<-hcs];rfl
 have wM:=jC.mid [.int .i64 p.kind,.bool p.dup,.bool p.retain,.int .i64 p.qos,.string ⟨p.topic.toArray⟩,.string ⟨p.body.toArray⟩,.int .i64 p.id,.string ⟨p.client.toArray⟩,.bool p.clean,.int .i64 p.keep,.bool p.hasWill] [.string ⟨p.will.topic.toArray⟩,.string ⟨p.will.body.toArray⟩,.int .i64 p.will.qos,.bool p.will.retain] ((p.cells h).drop 15) (by rw[<-hcs];rfl);have aV:=af (Hu p);rw[hcs];clear hcs hB jC;replace hb2:=af hb2;unfold U3 at*
 go_enter func107,ntmps107;go_wp2_with (first
  | (refine wS 174 21 rfl (w.heap.size+1) _ _ rfl rfl hZ rfl rfl aV.out ?_;intro w2 hw2 hr2)
  | (refine sF 47 rfl rfl wM underlying47 ?_)
  | (refine iH 174 rfl #[(0,.int .i64 p.kind),(1,.bool p.dup),(2,.bool p.retain),(3,.bool p.clean),(4,.bool p.hasWill),(5,.bool p.hasUser),(6,.bool p.hasPass),(7,.bool p.present),(8,.int .i64 p.qos),(9,.int .i64 p.code),(10,.int .i64 p.id),(11,.int .i64 p.keep),(12,.string ⟨p.topic.toArray⟩),(13,.string ⟨p.body.toArray⟩),(14,.string ⟨p.client.toArray⟩),(15,.string ⟨p.user.toArray⟩),(16,.string ⟨p.pass.toArray⟩),(17,.agg #[.string ⟨p.will.topic.toArray⟩,.string ⟨p.will.body.toArray⟩,.int .i64 p.will.qos,.bool p.will.retain])] rfl _ (Ap p) ?_))
 refine bodyPost_ret (aJ results107 rfl (aj hw2 174 underlying174 rfl (by kernel_rfl))) rfl ⟨rfl,hb2.trans (hr2.ag (by simp;omega) (by simp))⟩
structure aD (P:Prop)(w:World)(e:Ending)(w':World):Prop where
 out:∃b:Bool,e=.returned (.bool b)/\(b=true↔P)/\Below w.heap.size w w'
theorem aD.yes{P:Prop}{w w':World}(h:P)(hb:Below w.heap.size w w'):aD P w (.returned (.bool true)) w':=⟨true,rfl,⟨fun _=>h,fun _=>rfl⟩,hb⟩
theorem aD.no{P:Prop}{w w':World}(h:¬P)(hb:Below w.heap.size w w'):aD P w (.returned (.bool false)) w':=⟨false,rfl,⟨fun e=>(by cases e),fun e=>absurd e h⟩,hb⟩
structure PB (b:Nat)(p:Pk)(h:H3)(q:Pk)(k:H3)(w:World):Prop where
 one:ar w b (p.cells h).toArray 52
 two:ar w (b+1) (q.cells k).toArray 52
theorem PB.ag{b:Nat}{p:Pk}{h:H3}{q:Pk}{k:H3}{w w':World}(x:PB b p h q k w)(hb:Below w.heap.size w w'):PB b p h q k w':=⟨x.one.ag hb,x.two.ag hb⟩
def sK(p q:Pk):Bool:=decide (p.kind=q.kind)&&decide (p.dup=q.dup)&&decide (p.retain=q.retain)&&decide (p.clean=q.clean)&&decide (p.hasWill=q.hasWill)&&decide (p.hasUser=q.hasUser)&&decide (p.hasPass=q.hasPass)&&decide (p.present=q.present)&&decide (p.qos=q.qos)&&decide (p.code=q.code)&&decide (p.id=q.id)&&decide (p.keep=q.keep)&&decide (p.topic=q.topic)&&decide (p.body=q.body)&&decide (p.client=q.client)&&decide (p.user=q.user)&&decide (p.pass=q.pass)&&decide (p.will.topic=q.will.topic)&&decide (p.will.body=q.will.body)&&decide (p.will.qos=q.will.qos)&&decide (p.will.retain=q.will.retain)
theorem KY(p q:Pk)(W:World):(binOp .eql 174 (.agg (iI p)) (.agg (iI q))).run prog W=.ok (.bool (sK p q)) W:=by unfold iI sK;exact Ht _ _ _ _ _ _ _ _ _ _ _ _ _ _ _ _ _ _ _ _ _ _ _ _ _ _ _ _ _ _ _ _ _ _ _ _ _ _ _ _ _ _ W
theorem Pk.ly(p q:Pk):p=q↔p.wants=q.wants/\p.codes=q.codes/\p.filters=q.filters/\sK p q=true:=by
 obtain⟨a1,a2,a3,a4,a5,a6,a7,a8,a9,Zr,Zs,⟨a12,Ww,Zu,Zv⟩,Zw,Zy,ZA,ZC,a20,a21,a22,a23,a24⟩:=p;obtain⟨b1,b2,b3,b4,b5,b6,b7,b8,b9,DK,Qw,⟨Jy,Zt,KV,OE⟩,Zx,Zz,ZB,ZE,ZF,U2,b22,b23,b24⟩:=q;unfold sK;simp only[Bool.and_eq_true,decide_eq_true_eq,Pk.mk.injEq,gp.mk.injEq];constructor
 ·rintro⟨rfl,rfl,rfl,rfl,rfl,rfl,rfl,rfl,rfl,rfl,rfl,⟨rfl,rfl,rfl,rfl⟩,rfl,rfl,rfl,rfl,rfl,rfl,rfl,rfl,rfl⟩;simp
 rintro⟨rfl,rfl,rfl,⟨⟨⟨⟨⟨⟨⟨⟨⟨⟨⟨⟨⟨⟨⟨⟨⟨⟨⟨⟨rfl,rfl⟩,rfl⟩,rfl⟩,rfl⟩,rfl⟩,rfl⟩,rfl⟩,rfl⟩,rfl⟩,rfl⟩,rfl⟩,rfl⟩,rfl⟩,rfl⟩,rfl⟩,rfl⟩,rfl⟩,rfl⟩,rfl⟩,rfl⟩⟩;simp
theorem Hv(p q:Pk)(s1 s2:Operand)(W:World):(eqGuard .eql 174 s1 s2 (.agg (iI p)) (.agg (iI q))).run prog W=.ok () W:=by unfold iI;go_simp
theorem FA(p:Pk)(h:H3)(q:Pk)(k:H3)(w:World)(hp:p.In w h)(hq:q.In w k):
  Calls prog 81 #[.agg (p.cells h).toArray,.agg (q.cells k).toArray] w (aD (p=q) w):=by
 obtain⟨W0,hW0⟩:=ae ((w.alloc (.cells (p.cells h).toArray 52)).alloc (.cells (q.cells k).toArray 52));have hb0:Below w.heap.size w W0:=by rw[<-hW0];exact(ai.alloc ah _).alloc (by simp) _
 have Aq:PB w.heap.size p h q k W0:=by rw[<-hW0];refine⟨(ar.new _ _ _).alloc _,?_⟩;have:=ar.new (w.alloc (.cells (p.cells h).toArray 52)) (q.cells k).toArray 52;simpa using this
 have HP:=af hp;have HQ:=af hq;have hb0:=af hb0;have Aq:=af Aq;obtain⟨pv,DL⟩:=ae ((p.cells h).toArray);obtain⟨qv,qZ⟩:=ae ((q.cells k).toArray);rw[DL,qZ];rw[DL,qZ]at hW0;replace DL:=af DL;replace qZ:=af qZ;go_enter func81,ntmps81;go_wp2_with fail
 have FB:PB w.heap.size p h q k W0.drew:=⟨Aq.one,Aq.two⟩;have Qf:Below w.heap.size w W0.drew:=hb0.drew;replace Qf:=af Qf;clear hW0;refine aH [(1000,fun w'=>PB w.heap.size p h q k w')] (by kernel_rfl) ⟨FB,trivial⟩ fun KQ aL=>?_;refine tQ [0] ?_;refine lR 1 0 rfl rfl rfl rfl (fun w' hf=>by(have k0:w'.cell? ⟨w.heap.size,21,none⟩=some (.slice h.w.a h.w.n h.w.c):=hf.one.cell 21;go_simp<;>with_reducible rfl)) ?_;simp only[PT];refine tQ [2] ?_;refine lR 3 0 rfl rfl rfl rfl (fun w' hf=>by(have k0:w'.cell? ⟨w.heap.size+1,21,none⟩=some (.slice k.w.a k.w.n k.w.c):=hf.two.cell 21;go_simp<;>with_reducible rfl)) ?_;simp only[PT];refine sQ 4 fun K hK=>?_;simp only[GO];go_simp;refine(Hq (HP.lw.ag Qf.out) (HQ.lw.ag Qf.out)).mono ?_;rintro e w1 ⟨c1,rfl,hc1,hb1⟩;have K6:=FB.ag hb1;have qY:=af (Qf.trans (hb1.mono Qf.size));replace hc1:=af hc1;refine hK _ _ ⟨⟨fun _=>K6,trivial⟩,?_⟩;clear hK K;try simp only[PT]
 refine tQ [5] ?_;cases c1 with
 |false=>
  have hno:Hid (¬p=q):=af fun e=>by have:=hc1.2 (by rw[e]);cases this
  refine uQ 6 ?_;refine uQ 7 ?_;refine uQ 8 ?_;refine uQ 9 ?_;refine uQ 10 ?_;refine tQ [11,12] ?_;refine uQ 13 ?_;refine uQ 14 ?_;refine uQ 15 ?_;refine uQ 16 ?_;refine uQ 17 ?_;refine tQ [18,19] ?_;refine uQ 20 ?_;refine uQ 21 ?_;refine uQ 22 ?_;refine uQ 23 ?_;refine uQ 24 ?_;refine tQ [25,26] ?_;refine dQ (aL.out _ _ ?_);clear aL KQ;go_wp2;go_ret;exact aD.no hno.out qY.out
 | true=>
  refine tQ [6] ?_;refine lR 7 0 rfl rfl rfl rfl (fun w' hf=>by(have k0:w'.cell? ⟨w.heap.size,22,none⟩=some (.slice h.c.a h.c.n h.c.c):=hf.one.cell 22;go_simp<;>with_reducible rfl)) ?_;simp only[PT];refine tQ [8] ?_;refine lR 9 0 rfl rfl rfl rfl (fun w' hf=>by(have k0:w'.cell? ⟨w.heap.size+1,22,none⟩=some (.slice k.c.a k.c.n k.c.c):=hf.two.cell 22;go_simp<;>with_reducible rfl)) ?_;simp only[PT];refine sQ 10 fun K hK=>?_;simp only[GO];go_simp;refine(xI (HP.lc.ag qY.out) (HQ.lc.ag qY.out)).mono ?_;rintro e w2 ⟨c2,rfl,hc2,hb2⟩;have Np:=K6.ag hb2;have hL2:=af (qY.trans (hb2.mono qY.size));replace hc2:=af hc2;refine hK _ _ ⟨⟨fun _=>Np,trivial⟩,?_⟩;clear hK K;try simp only[PT]
  refine tQ [11,12] ?_;cases c2 with
  |false=>
   have hno:Hid (¬p=q):=af fun e=>by have:=hc2.2 (by rw[e]);cases this
   refine uQ 13 ?_;refine uQ 14 ?_;refine uQ 15 ?_;refine uQ 16 ?_;refine uQ 17 ?_;refine tQ [18,19] ?_;refine uQ 20 ?_;refine uQ 21 ?_;refine uQ 22 ?_;refine uQ 23 ?_;refine uQ 24 ?_;refine tQ [25,26] ?_;refine dQ (aL.out _ _ ?_);clear aL KQ;go_wp2;go_ret;exact aD.no hno.out hL2.out
  | true=>
   refine tQ [13] ?_;refine lR 14 0 rfl rfl rfl rfl (fun w' hf=>by(have k0:w'.cell? ⟨w.heap.size,23,none⟩=some (.slice h.f.a h.f.n h.f.c):=hf.one.cell 23;go_simp<;>with_reducible rfl)) ?_;simp only[PT];refine tQ [15] ?_;refine lR 16 0 rfl rfl rfl rfl (fun w' hf=>by(have k0:w'.cell? ⟨w.heap.size+1,23,none⟩=some (.slice k.f.a k.f.n k.f.c):=hf.two.cell 23;go_simp<;>with_reducible rfl)) ?_;simp only[PT];refine sQ 17 fun K hK=>?_;simp only[GO];go_simp;refine(Hp (HP.lf.ag hL2.out) (HQ.lf.ag hL2.out)).mono ?_;rintro e w3 ⟨c3,rfl,hc3,hb3⟩;have OG:=Np.ag hb3;have hL3:=af (hL2.trans (hb3.mono hL2.size));replace hc3:=af hc3;refine hK _ _ ⟨⟨fun _=>OG,trivial⟩,?_⟩;clear hK K;try simp only[PT]
   refine tQ [18,19] ?_;cases c3 with
   |false=>
    have hno:Hid (¬p=q):=af fun e=>by have:=hc3.2 (by rw[e]);cases this
    refine uQ 20 ?_;refine uQ 21 ?_;refine uQ 22 ?_;refine uQ 23 ?_;refine uQ 24 ?_;refine tQ [25,26] ?_;refine dQ (aL.out _ _ ?_);clear aL KQ;go_wp2;go_ret;exact aD.no hno.out hL3.out
   | true=>
    refine lR 20 0 rfl rfl rfl rfl (fun w' hf=>aM hf.one 52 underlying52 rfl (by kernel_rfl)) ?_;try simp only[PT]
    refine lR 22 0 rfl rfl rfl rfl (fun w' hf=>aM hf.two 52 underlying52 rfl (by kernel_rfl)) ?_;try simp only[PT]
    refine sQ 21 fun K hK=>?_;simp only[GO];go_simp;refine(Fy p h w3).mono ?_;rintro e w4 ⟨rfl,hb4⟩;have hP4:=OG.ag hb4;have hL4:=af (hL3.trans (hb4.mono hL3.size));refine hK _ _ ⟨⟨fun _=>hP4,trivial⟩,?_⟩;clear hK K;try simp only[PT]
    refine sQ 23 fun K hK=>?_;simp only[GO];go_simp;refine(Fy q k w4).mono ?_;rintro e w5 ⟨rfl,eF⟩;have hP5:=hP4.ag eF;have Ce:=af (hL4.trans (eF.mono hL4.size));refine hK _ _ ⟨⟨fun _=>hP5,trivial⟩,?_⟩;clear hK K;have hq:=KY p q;have hg:=Hv p q;have dK:=af (Pk.ly p q);obtain⟨v1,NT⟩:=ae (Value.agg (iI p));obtain⟨v2,hv2⟩:=ae (Value.agg (iI q));obtain⟨c4,Jv⟩:=ae (sK p q);rw[NT,hv2]at hq hg;rw[Jv]at hq dK;rw[NT,hv2];clear NT hv2 Jv;try simp only[PT]
    refine tQ [24,25,26] ?_;refine dQ (aL.out _ _ ?_);clear aL KQ;go_wp2;go_ret;refine⟨c4,rfl,?_,Ce.out⟩;rw[dK.out];constructor
    ·intro h4;exact⟨by simpa using hc1.out,by simpa using hc2.out,by simpa using hc3.out,h4⟩
    exact fun h4=>h4.2.2.2
theorem Ar{P:Program}{w:World}{ops:Array Oper}{rest:List Oper}{op:Oper}{a:Act}{Q:Exit->Act->World->Prop}(ty:TypeId){x:Operand}(ho:op.op=.load ty x){b j:Nat}{cs:List Value}(hx:a.eval x=.pointer (some ⟨b,j,none⟩))(hr:w.rangeAt b j cs){d:TypeDesc}(hu:P.underlying ty=some d)
  (h:wpList P ops Q rest (a.put op.dst (.agg cs.toArray)) w) (hw:Region.wanted op (yielded ops a.tmps)=true:=by kernel_rfl) (hd:d.isRow=true:=by rfl) (hi:(P.info? ty).map (·.size)=some cs.length:=by kernel_rfl):wpList P ops Q (op::rest) a w:=by
 have hl:=run_loadAt_mid (P:=P) w b j ty cs d hr hu hd hi;unfold wpList;rw[if_pos hw];refine .inl ?_;unfold Oper.wp execOp;simp only[ho,hx,Sem.run_bind,hl,Result.andThen_ok,Sem.run_pure];exact h
structure TB (b:Nat)(x:dE)(y:dE)(w:World):Prop where
 one:ar w b x.cells.toArray 55
 two:ar w (b+1) y.cells.toArray 55
theorem TB.ag{b:Nat}{x y:dE}{w w':World}(h:TB b x y w)(hb:Below w.heap.size w w'):TB b x y w':=⟨h.one.ag hb,h.two.ag hb⟩
theorem Tn.ly(t u:Tn):t=u↔t.kind=u.kind/\t.conn=u.conn/\t.pk=u.pk/\t.bytes=u.bytes/\t.arm=u.arm/\t.n=u.n/\t.bf=u.bf:=by obtain⟨a1,a2,a3,a4,a5,a6,a7⟩:=t;obtain⟨b1,b2,b3,b4,b5,b6,b7⟩:=u;simp
theorem OH(x y:dE)(w:World)(hx:x.t.In w x.h x.hp)(hy:y.t.In w y.h y.hp):
  Calls prog 34 #[.agg x.cells.toArray,.agg y.cells.toArray] w (aD (x.t=y.t) w):=by
 have dK:=Tn.ly x.t y.t;obtain⟨P,hP⟩:=ae ((x.t=y.t):Prop);rw[hP]at dK ⊢;clear hP;replace dK:=af dK;obtain⟨⟨tk,tc,tp,tb,ta,tn,ti⟩,th,yD⟩:=x;obtain⟨⟨uk,uc,up,ub,ua,un,ui⟩,uh,yE⟩:=y;dsimp only at*
 have HX:=af hx;have HY:=af hy;obtain⟨xv,kD⟩:=ae ((dE.cells ⟨⟨tk,tc,tp,tb,ta,tn,ti⟩,th,yD⟩).toArray);obtain⟨yv,kE⟩:=ae ((dE.cells ⟨⟨uk,uc,up,ub,ua,un,ui⟩,uh,yE⟩).toArray);obtain⟨W0,hW0⟩:=ae ((w.alloc (.cells xv 55)).alloc (.cells yv 55));have hb0:Below w.heap.size w W0:=by rw[<-hW0];exact(ai.alloc ah _).alloc (by simp) _
 have rh:TB w.heap.size ⟨⟨tk,tc,tp,tb,ta,tn,ti⟩,th,yD⟩ ⟨⟨uk,uc,up,ub,ua,un,ui⟩,uh,yE⟩ W0:=by rw[<-hW0,<-kD,<-kE];refine⟨(ar.new _ _ _).alloc _,?_⟩;have:=ar.new (w.alloc (.cells (dE.cells ⟨⟨tk,tc,tp,tb,ta,tn,ti⟩,th,yD⟩).toArray 55)) (dE.cells ⟨⟨uk,uc,up,ub,ua,un,ui⟩,uh,yE⟩).toArray 55;simpa using this
 have k0:W0.cell? ⟨w.heap.size,0,none⟩=some (.int .i64 tk):=rh.one.cell 0;have j0:W0.cell? ⟨w.heap.size+1,0,none⟩=some (.int .i64 uk):=rh.two.cell 0;have k1:W0.cell? ⟨w.heap.size,1,none⟩=some (.int .i64 tc):=rh.one.cell 1;have j1:W0.cell? ⟨w.heap.size+1,1,none⟩=some (.int .i64 uc):=rh.two.cell 1;have Jq:=rh.one.mid [.int .i64 tk,.int .i64 tc] (tp.cells th) [.string ⟨tb.toArray⟩,.int .i64 ta,.int .i64 tn,.slice yD.a yD.n yD.c] rfl;have kg:=rh.two.mid [.int .i64 uk,.int .i64 uc] (up.cells uh) [.string ⟨ub.toArray⟩,.int .i64 ua,.int .i64 un,.slice yE.a yE.n yE.c] rfl;have hb0:=af hb0;have rh:=af rh;rw[kD,kE];replace kD:=af kD;replace kE:=af kE;by_cases h0:tk=uk
 ·subst h0;by_cases h1:tc=uc
  ·subst h1;go_enter func34,ntmps34;go_wp2_with (first
    | (refine Ar 52 rfl rfl Jq underlying52 ?_)
    | (refine Ar 52 rfl rfl kg underlying52 ?_))
   refine(FA tp th up uh W0 (HX.pk.ag hb0.out) (HY.pk.ag hb0.out)).mono ?_;rintro e w1 ⟨b1,rfl,hb1,vn⟩;have rz:=rh.ag vn;have qY:=af (hb0.trans (vn.mono hb0.size));replace hb1:=af hb1;clear k0 k1 j0 j1 Jq kg vn;have OA:w1.cell? ⟨w.heap.size,26,none⟩=some (.string ⟨tb.toArray⟩):=rz.one.cell 26;have j26:w1.cell? ⟨w.heap.size+1,26,none⟩=some (.string ⟨ub.toArray⟩):=rz.two.cell 26;have Jt:w1.cell? ⟨w.heap.size,27,none⟩=some (.int .i64 ta):=rz.one.cell 27;have j27:w1.cell? ⟨w.heap.size+1,27,none⟩=some (.int .i64 ua):=rz.two.cell 27;have Nn:w1.cell? ⟨w.heap.size,28,none⟩=some (.int .i64 tn):=rz.one.cell 28;have j28:w1.cell? ⟨w.heap.size+1,28,none⟩=some (.int .i64 un):=rz.two.cell 28;have Fx:w1.cell? ⟨w.heap.size,29,none⟩=some (.slice yD.a yD.n yD.c):=rz.one.cell 29;have j29:w1.cell? ⟨w.heap.size+1,29,none⟩=some (.slice yE.a yE.n yE.c):=rz.two.cell 29;replace rz:=af rz;cases b1 with
   |false=>
    have hno:Hid (¬P):=af fun e=>by have:=hb1.2 (dK.1 e).2.2.1;cases this
    go_wp2;go_ret;exact aD.no hno.out qY.out
   | true=>
    by_cases h2:tb=ub
    ·subst h2;by_cases h3:ta=ua
     ·subst h3;by_cases h4:tn=un
      ·subst h4;go_wp2_with fail
       refine(xI (HX.p.ag qY.out) (HY.p.ag qY.out)).mono ?_;rintro e w2 ⟨b2,rfl,hb2,fO⟩;have hL2:=af (qY.trans (fO.mono qY.size));replace hb2:=af hb2;clear fO;go_wp2_with fail;go_ret;refine⟨b2,rfl,?_,hL2.out⟩;rw[hb2.out,dK.out];constructor
       ·intro h5;exact⟨by trivial,by trivial,by simpa using hb1.out,by trivial,by trivial,by trivial,h5⟩
       exact fun h5=>h5.2.2.2.2.2.2
      have dn:(tn==un)=false:=by simpa using h4
      have hno:Hid (¬P):=af fun e=>h4 (dK.1 e).2.2.2.2.2.1;replace h4:=af h4;go_wp2;go_ret;exact aD.no hno.out qY.out
     have dn:(ta==ua)=false:=by simpa using h3
     have hno:Hid (¬P):=af fun e=>h3 (dK.1 e).2.2.2.2.1;replace h3:=af h3;go_wp2;go_ret;exact aD.no hno.out qY.out
    have dn:(tb==ub)=false:=by simpa using h2
    have hno:Hid (¬P):=af fun e=>h2 (dK.1 e).2.2.2.1;replace h2:=af h2;go_wp2;go_ret;exact aD.no hno.out qY.out
  have dn:(tc==uc)=false:=by simpa using h1
  have hno:Hid (¬P):=af fun e=>h1 (dK.1 e).2.1;replace h1:=af h1;go_enter func34,ntmps34;go_wp2;go_ret;exact aD.no hno.out hb0.out
 have dn:(tk==uk)=false:=by simpa using h0
 have hno:Hid (¬P):=af fun e=>h0 (dK.1 e).1;replace h0:=af h0;go_enter func34,ntmps34;go_wp2;go_ret;exact aD.no hno.out hb0.out
end
theorem vo:∀(l:List UInt8)(k:Nat),l.length=k+1->(∀j,j<k->∀x,l[j]?=some x->128<=x.toNat)->(∀x,l[k]?=some x->x.toNat<128/\(k=0\/x.toNat≠0))->
  eP (k+1) (bY l)=l/\(k=0\/bY l≠0)
 | [],k,h,_,_=>by simp at h
 |x::l,0,h,_,h2=>by
  obtain rfl:l=[]:=by cases l with | nil=>rfl | cons _ _=>simp at h
  obtain⟨h3, -⟩:=h2 x rfl;refine⟨?_,.inl rfl⟩;unfold eP bY bY eP;rw[Nat.mul_zero,Nat.add_zero,Nat.mod_eq_of_lt h3,if_pos h3];simp
 | x::l,k+1,h,h1,h2=>by
  have hl:l.length=k+1:=by simpa using h
  obtain⟨e1,e2⟩:=vo l k hl (fun j hj y hy=>h1 (j+1) (by omega) y (by simpa using hy)) (fun y hy=>by obtain⟨a,b⟩:=h2 y (by simpa using hy);exact⟨a,.inr (b.resolve_left (by omega))⟩)
  have hx:128<=x.toNat:=h1 0 (by omega) x rfl;have hx2:=x.toNat_lt;have ht:bY l≠0:=by
   rcases e2 with rfl | h4
   ·match l,hl with
    |[y],_=>obtain⟨a,b⟩:=h2 y rfl;unfold bY bY;have:=b.resolve_left (by omega);omega
   exact h4
  have h5:bY (x::l)=x.toNat%128+128*bY l:=rfl;have h6:¬bY (x::l)<128:=by omega
  have h7:bY (x::l)%128+128=x.toNat:=by omega
  have h8:bY (x::l) / 128=bY l:=by omega
  refine⟨?_,.inr (by omega)⟩;unfold eP;rw[if_neg h6,h7,h8,e1];simp
theorem Au{α:Type}(p:α->Bool):∀(l:List α)(k:Nat),idxOf p l=(k:Int)->(∃x,l[k]?=some x/\p x=true)/\∀j,j<k->∀x,l[j]?=some x->p x=false
 | [],k,h=>by simp[idxOf]at h
 | x::l,k,h=>by
  unfold idxOf at h;by_cases hx:p x=true
  ·rw[if_pos hx]at h;obtain rfl:k=0:=by omega
   exact⟨⟨x,rfl,hx⟩,fun j hj=>by omega⟩
  rw[if_neg hx]at h;dsimp only at h;split at h
  ·omega
  rename_i jw;cases k with
  | zero=>omega
  | succ k=>
   obtain⟨⟨y,h1,h2⟩,h3⟩:=Au p l k (by omega);refine⟨⟨y,by simpa using h1,h2⟩,fun j hj z hz=>?_⟩;cases j with
   |zero=>simp at hz;subst hz;simpa using hx
   | succ j=>exact h3 j (by omega) z (by simpa using hz)
theorem vq{l:List UInt8}(h0:(bS l).2.2=0)(h1:(bS l).2.1≠0):
  ∃n:Nat,(bS l).1=(n:Int)/\kY n=true/\(bS l).2.1=(bR n:Int)/\l.take (bR n)=eP (bR n) n/\bR n<=l.length:=by
 unfold bS at h0 h1 ⊢;dsimp only at h0 h1 ⊢;obtain⟨e,he⟩:=ae (idxOf (fun x:UInt8=>decide (x.toNat<128)) (l.take 4));rw[he]at h0 h1 ⊢;split at h1
 ·split at h1<;>simp at h1
 rename_i jw;obtain⟨k,rfl⟩:=Int.eq_ofNat_of_zero_le (show 0<=e by omega);rw[if_neg jw]at h0 ⊢;simp only[Int.toNat_natCast]at h0 h1 ⊢;split at h1
 case isFalse=>simp at h1
 rename_i hs;rw[if_pos hs];obtain⟨⟨x,hx,hp⟩,hall⟩:=Au _ _ _ he;rw[List.getElem?_take]at hx;split at hx
 case isFalse=>cases hx
 rename_i hk4;have Wp:k<l.length:=(List.getElem?_eq_some_iff.1 hx).1;have hp:x.toNat<128:=by simpa using hp
 have hlk:(l.take k).length=k:=List.length_take_of_le (by omega);have my:l.take (k+1)=l.take k++[x]:=by rw[List.take_add_one,hx];rfl
 have hne:x.toNat≠0\/k=0:=by have h2:=mP (l.take k) x;have h3:=lg (l.take k);rw[hlk]at h2 h3;rw[Nat.mod_eq_of_lt hp]at h2;refine(uo (bY (l.take k)) k x.toNat h3 hk4 hp).1 ?_;rw[<-h2,<-my];exact hs
 obtain⟨e1, -⟩:=vo (l.take (k+1)) k (List.length_take_of_le (by omega)) (fun j hj y hy=>by
  rw[List.getElem?_take,if_pos (by omega)]at hy;have h4:=hall j hj y (by rw[List.getElem?_take,if_pos (by omega)];exact hy);have h5:¬y.toNat<128:=by simpa using h4
  omega) (fun y hy=>by
  rw[List.getElem?_take,if_pos (by omega),hx]at hy;cases hy;exact⟨hp,hne.symm⟩)
 refine⟨bY (l.take (k+1)),rfl,?_,by rw[hs];simp,by rw[hs];exact e1.symm,by omega⟩;unfold bR at hs;split at hs
 ·omega
 rename_i h;simpa using h
instance:DecidableEq Pk:=fun p q=>decidable_of_iff _ (Pk.ly p q).symm
instance (p:Pk):Decidable (aZ p):=inferInstanceAs (Decidable (_/\_))
def yG(n:Nat):List UInt8:=eP (bR n) n
def eG(p:Pk):List UInt8:=UInt8.ofNat (16*p.kind.toNat+cE p)::(yG (bj p).length++bj p)
def bg(l:List UInt8):Option Pk:=match l with
 | []=>none
 | h::r=>
  if (bS r).2.2=0/\(bS r).2.1≠0/\(r.length:Int)-(bS r).2.1=(bS r).1 then
   (cj ((h.toNat / 16:Nat):Int) (h.toNat%16) (r.drop (bS r).2.1.toNat)).bind fun x=>if x.2=[]/\cE x.1=h.toNat%16/\aZ x.1 then some x.1 else none
  else none
theorem nj{p:Pk}(h:aZ p):cE p<16:=by
 unfold cE;split
 ·rename_i hk;have h1:=h.1;unfold bV at h1;simp only[hk]at h1;have h2:fy p=true:=by simpa using h1
  unfold fy at h2;have h3:within p.qos 0 2=true:=by simp only[Bool.and_eq_true]at h2;exact h2.1.2
  have h4:=within_iff.1 h3;unfold aY;split<;>split<;>omega
 split<;>decide
theorem tK{α:Type}(f:α->List UInt8)(m:Nat):∀(l:List α),(∀x∈l,(f x).length<=m)->(l.flatMap f).length<=l.length*m
 | [],_=>by simp
 |x::l,h=>by have h1:=tK f m l (fun y hy=>h y (List.mem_cons_of_mem _ hy));have h2:=h x (List.mem_cons_self ..);rw[List.flatMap_cons,List.length_append,List.length_cons,Nat.add_mul];omega
theorem cG(s:List UInt8):(aI s).length=2+s.length:=by unfold aI;rw[List.length_append,aO]
theorem gA{s:List UInt8}(h:bU s=true):s.length<=200:=by unfold bU at h;rw[Bool.and_eq_true]at h;have h1:=h.2;unfold dp at h1;simp only[Bool.and_eq_true,decide_eq_true_eq]at h1;omega
theorem tL(b:Prop)[Decidable b](x:List UInt8)(m:Nat)(h:b->x.length<=m):(if b then x else[]).length<=m:=by
 split
 ·rename_i hb;exact h hb
 simp
theorem eU{p:Pk}(h:aZ p):(bj p).length<=5000:=by
 have hm:=h.1;by_cases h1:p.kind=1
 ·have hc:oo p=true:=by unfold bV at hm;simpa[h1]using hm
  obtain⟨a1, -,a3,a4,a5⟩:=iG hc;have b1:=dU a1;have b3:(if p.hasWill then aI p.will.topic++aI p.will.body else[]).length<=2210:=tL _ _ _ fun hw=>by
   rcases a3 with⟨e, -⟩ | ⟨-,c1,c2, -⟩
   ·rw[e]at hw;cases hw
   have:=ez c1;rw[List.length_append,cG,cG];omega
  have b4:(if p.hasUser then aI p.user else[]).length<=202:=tL _ _ _ fun hw=>by
   rcases a4 with⟨-,c1⟩ | ⟨e, -⟩
   ·have:=dU c1;rw[cG];omega
   rw[e]at hw;cases hw
  have b5:(if p.hasPass then aI p.pass else[]).length<=202:=tL _ _ _ fun hw=>by
   rcases a5 with⟨-,c1⟩ | ⟨e, -⟩
   ·rw[cG];omega
   rw[e]at hw;cases hw
  unfold bj;rw[if_pos h1];simp only[List.length_append,cG,aO]at b3 b4 b5 ⊢;have:gS.length=4:=rfl;omega
 by_cases h2:p.kind=2
 ·rw[qx h2,List.length_append,aO,aO];omega
 by_cases h3:p.kind=3
 ·have hc:fy p=true:=by unfold bV at hm;simpa[h3]using hm
  unfold fy at hc;simp only[Bool.and_eq_true,decide_eq_true_eq]at hc;have:=ez hc.1.1.1;have b2:(if 0<p.qos then ay 2 p.id.toNat else[]).length<=2:=tL _ _ _ fun _=>by rw[aO];omega
  rw[tI h3,List.length_append,List.length_append,cG];omega
 by_cases h8:p.kind=8
 ·have hc:dL p.wants cI=true:=by unfold bV at hm;simp only[h8]at hm;simp at hm;exact hm.2
  have hall:=fA hc;have hle:p.wants.length<=8:=by unfold dL at hc;simp only[Bool.and_eq_true,decide_eq_true_eq]at hc;omega
  have:=tK cF 203 p.wants (fun x hx=>by have h4:=hall x hx;unfold cI at h4;rw[Bool.and_eq_true]at h4;have:=gA h4.1;unfold cF;rw[List.length_append,cG,aO];omega)
  rw[qy h8,List.length_append,aO];omega
 by_cases h9:p.kind=9
 ·have hc:dL p.codes cY=true:=by unfold bV at hm;simp only[h9]at hm;simp at hm;exact hm.2
  have hle:p.codes.length<=8:=by unfold dL at hc;simp only[Bool.and_eq_true,decide_eq_true_eq]at hc;omega
  have:=tK (fun c:Int=>ay 1 c.toNat) 1 p.codes (fun x _=>by rw[aO];omega);rw[qA h9,List.length_append,aO];omega
 by_cases h10:p.kind=10
 ·have hc:dL p.filters bU=true:=by unfold bV at hm;simp only[h10]at hm;simp at hm;exact hm.2
  have hall:=fA hc;have hle:p.filters.length<=8:=by unfold dL at hc;simp only[Bool.and_eq_true,decide_eq_true_eq]at hc;omega
  have:=tK aI 202 p.filters (fun x hx=>by have:=gA (hall x hx);rw[cG];omega)
  rw[na h10,List.length_append,aO];omega
 by_cases hi:4<=p.kind/\p.kind<=11
 ·rw[kA hi h8 h9 h10,aO];omega
 rw[kB h1 h2 h3 h8 h9 h10 hi];simp
theorem nX(n:Int):bR n<=4:=pY n
theorem Hw{p:Pk}(h:aZ p):(eG p).length<=5005:=by unfold eG yG;rw[List.length_cons,List.length_append,eu];have:=eU h;have:=nX (bj p).length;omega
theorem nk(b:List UInt8)(p:Pk):bg b=some p↔aZ p/\eG p=b:=by
 constructor
 ·intro h;unfold bg at h;split at h
  ·cases h
  rename_i hd r;split at h
  case isFalse=>cases h
  rename_i hc;obtain⟨c0,c1,c2⟩:=hc;obtain⟨n,e1,e2,e3,e4,e5⟩:=vq c0 c1;rw[e3]at c2 h;rw[e1]at c2;rw[Int.toNat_natCast]at h;cases hx:cj ((hd.toNat / 16:Nat):Int) (hd.toNat%16) (r.drop (bR n))with
  | none=>rw[hx]at h;cases h
  |some x=>
   rw[hx,Option.bind_some]at h;split at h
   case isFalse=>cases h
   rename_i hr;obtain⟨r1,r2,r3⟩:=hr;cases h;obtain⟨q,rest⟩:=x;dsimp only at r1 r2 r3;subst r1;obtain⟨f1,f2,f3,f4⟩:=Hi.1 ⟨hx,r2,r3⟩;refine⟨f1,?_⟩;unfold eG yG;dsimp only;have h7:(bj q).length=n:=by rw[f4,List.length_drop];omega
   rw[f2,f3,h7,f4,<-e4,List.take_append_drop];have h8:16*((hd.toNat / 16:Nat):Int).toNat+hd.toNat%16=hd.toNat:=by rw[Int.toNat_natCast];omega
   rw[h8];simp
 rintro⟨h,rfl⟩;have hk:=dH h;have hf:=nj h;have hl:=eU h;have hm:kY (bj p).length=true:=(jJ _).2 (by omega);have hr:=xi ((bj p).length:Int) hm (bj p);rw[Int.toNat_natCast]at hr;have hs:bR ((bj p).length:Int)≠0:=by
  unfold bR;rw[hm];simp only[Bool.true_eq_false,if_false]
  repeat' split
  all_goals decide
 have hb:(UInt8.ofNat (16*p.kind.toNat+cE p)).toNat=16*p.kind.toNat+cE p:=gv _ (by omega);unfold bg eG yG;dsimp only;rw[hr];dsimp only;rw[if_pos ⟨rfl,by omega,by rw[List.length_append,eu];omega⟩,Int.toNat_natCast,List.drop_append_of_le_length (by rw[eu];omega),List.drop_of_length_le (by rw[eu];omega),List.nil_append,hb];have g1:(16*p.kind.toNat+cE p) / 16=p.kind.toNat:=by omega
 have g2:(16*p.kind.toNat+cE p)%16=cE p:=by omega
 rw[g1,g2,Int.toNat_of_nonneg (by omega),mb h,Option.bind_some,if_pos ⟨rfl,rfl,h⟩]
def fR:bT:=⟨eG,bg,nk,fun p h=>by have:=Hw h;omega⟩
end Go.Proofs.YtkghejaimhoboaaGreatDoor
