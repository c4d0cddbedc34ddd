/- Parts of the proof of ScriptTurns. -/
import Derived.Test.YtkghejaimhoboaaGreatDoorPk07
import Derived.Great.BuildSlice
import Derived.Test.YtkghejaimhoboaaGreatDoorPk04
import Derived.Lib.SliceRun
import Derived.Deep.MidRow
import Derived.Test.YtkghejaimhoboaaGreatDoorPk08
set_option linter.unusedSimpArgs false
set_option linter.unusedVariables false
set_option maxRecDepth 100000
set_option maxHeartbeats 8000000
namespace Go.Proofs.YtkghejaimhoboaaGreatDoor
open Go.RowKit Go.Shelf Go.Proofs.Tryz
theorem ar.jb(w:World)(cs:Array Value)(T:TypeId)(n:Nat)(h:w.heap.size=n):ar (w.alloc (.cells cs T)) n cs T:=by subst h;exact ar.new w cs T
theorem uJ{w:World}{B:Nat}{L:Lay}{s:OS}(h:OB w B L s [] [])(hn:L.vp=.slice none 0 0/\L.vc=.slice none 0 0):OB w w.heap.size L s [] []:=by obtain⟨p,ib,sb,vl,vp,vc,rb,W⟩:=L;dsimp only at hn;obtain⟨rfl,rfl⟩:=hn;exact OB.RT (L:=⟨p,ib,sb,vl,.slice none 0 0,.slice none 0 0,rb,W⟩) h ah
section
section
variable {P:Program} {w:World}
theorem lW(b:Nat)(cs:Array Value):ak [b] w (w.setRow b cs):=⟨rfl,rfl,rfl,by simp[World.setRow],fun k _ hk=>setRow_other w b k cs (fun e=>hk (by simp[e]))⟩
theorem td(t T:TypeId)(n:Nat)(hs:∀w,(sizeOf t).run P w=.ok n w){b:Nat}{cur cs:Array Value}(hb:ar w b cur T)(h1:cs.size=n)(h2:cur.size=n)(ke:∀v∈cs.toList,v.oneCell'=true):
  (Instr.storeAt t (.pointer (some ⟨b,0,none⟩)) (.agg cs)).run P w=.ok () (w.setRow b cs):=by
 have hr:=run_storeCells_at P b 0 T cs.toList 0 cur w hb (by simp;omega) ke;have e1:(cur.toList.take (0+0)++cs.toList++cur.toList.drop (0+0+cs.toList.length)).toArray=cs:=by rw[List.drop_eq_nil_of_le (by simp;omega)];simp
 rw[e1]at hr;have hc:(Value.agg cs).cells=cs:=rfl;simp[Instr.storeAt,Instr.sureAddr,storeVar,hs,hc,h1,hr]
theorem mW{o:Oper}{a:Act}{K:Act->World->Prop}{Q:Exit->Act->World->Prop}(t T:TypeId)(x y:Operand)(ho:o.op=.store t x y)(n:Nat)(hs:∀w,(sizeOf t).run P w=.ok n w)(b:Nat)(cur cs:Array Value)
  (hx:a.eval x=.pointer (some ⟨b,0,none⟩)) (hy:a.eval y=.agg cs) (hb:ar w b cur T) (h1:cs.size=n) (h2:cur.size=n) (ke:∀v∈cs.toList,v.oneCell'=true)
  (h:∀w',ar w' b cs T->ak [b] w w'->K (a.put o.dst undef) w'):o.wp P a w K Q:=by
 have hr:=td (P:=P) t T n hs hb h1 h2 ke;unfold Oper.wp execOp;simp only[ho,hx,hy,Sem.run_bind,hr,Result.andThen_ok,Sem.run_pure];simp only[Oper.upon];exact h _ (setRow_heap w b cur cs T (0,0) hb) (lW b cs)
theorem wW{o:Oper}{a:Act}{K:Act->World->Prop}{Q:Exit->Act->World->Prop}(T:TypeId)(n:Nat){x y:Operand}(ho:o.op=.store T x y)(b:Nat)(cur cs:Array Value)
  (hx:a.eval x=.pointer (some ⟨b,0,none⟩)) (hy:a.eval y=.agg cs) (hb:ar w b cur T) (h1:cs.size=n) (h2:cur.size=n) (ke:∀v∈cs.toList,v.oneCell'=true)
  (h:∀w',ar w' b cs T->ak [b] w w'->K (a.put o.dst undef) w') (hs:∀w,(sizeOf T).run P w=.ok n w:=by(intro w;kernel_rfl)):o.wp P a w K Q:=mW T T x y ho n hs b cur cs hx hy hb h1 h2 ke h
theorem aJ{fn:Func}{a:Tmp}{t:TypeId}(h:fn.results=#[.cell a t]){tmps:Array Value}{p:Addr}(hp:tmps.getD a undef=.pointer (some p)){v:Value}(hl:(loadVar t p).run P w=.ok v w):(results fn tmps).run P w=.ok v w:=by rw[Array.getD_eq_getD_getElem?]at hp;simp[results,h,hp,asAddr,hl]
end
theorem dF{P:Program}{o:Oper}{a:Act}{w:World}{K:Act->World->Prop}{Q:Exit->Act->World->Prop}{t e:TypeId}{z:Value}{size bytes:Nat}(x:Operand)(ho:o.op=.buildSlice t 1 #[(0,x)])(E:fL P t e z size bytes)(hs:0<size)(hs2:size<=100)
  (v:Value) (hx:a.eval x=v) (hv:v.cells.size=size) (h:K (a.put o.dst (.slice (some ⟨w.heap.size,0,none⟩) 1 1)) (w.alloc (.cells v.cells e))):o.wp P a w K Q:=by
 obtain⟨i,hi,hz0,hz1,hz2⟩:=info_parts E.info;refine wp_buildSlice t e 1 #[(0,x)] ho v.cells i z E.ht hi hz0 (by rw[hz1];omega) (by rw[hz1];omega) ?_ h;have hz3:=E.hzs;have:=Go.Great.fill_whole (s:=size) hs [v] ((Array.range (1*size)).map (z.cells[· %z.cells.size]!)) (by simp[hv]) (by simp);rw[hz1];simpa[hx]using this
end
section
section
variable {P:Program} {w:World} {t e:TypeId} {z:Value} {size bytes:Nat}
theorem yl(ty:TypeId)(E:fL P t e z size bytes)(hsz:0<size)(base:Nat)(v:Value)(n:Nat)(xs:List Value)(hown:w.ownsRow base e size v n xs)
  (a:Addr) (m c:Nat) (Jq:0<m) (news:List Value) (hl:news.length=m*size) (hnews:∀j u,news[j]?=some u->w.cell? (a.add j)=some u) (h1:∀u∈news,u.oneCell'=true)
  (h63:n+m<100000000) (hbytes:(n+m)*bytes<=140737488355328) (hbase:base<=w.heap.size):
  ∃v' w',(Builtin.append_ #[t,t] ty #[v,.slice (some a) m c]).run P w=.ok v' w'/\w'.ownsRow base e size v' (n+m) (xs++news)/\w.grownBy w' v.ownBlock/\(∀k,v'.ownBlock=some k->v.ownBlock=some k\/w.heap.size<=k):=by
 obtain⟨i,hi,hz0,hz1,hz2⟩:=info_parts E.info;have hm:n+m<=maxLen:=by unfold maxLen;omega
 obtain⟨v',w',hr,h2,h3,_⟩:=run_append_own (P:=P) w base t ty e i z size bytes E.ht hi hz0 hz1 hz2 E.hzs hsz v n xs hown a m c news hl hnews h1 hm hbytes hbase;refine⟨v',w',hr,h2,h3,fun k hk=>?_⟩;have hl2:news.length=m*i.size:=by rw[hz1];exact hl
 rcases hown.2 with⟨rfl,rfl⟩ | ⟨g,cap,cur,rfl,hbg,hg,N6,hcm,hcs,VV⟩
 ·have hr2:=run_append_nil (P:=P) w t ty e i z E.ht hi hz0 a m c news hl2 hnews (by omega) (by omega) (by rw[hz2];simp at hbytes;omega);rw[hr]at hr2;cases hr2;simp[Value.ownBlock]at hk;exact .inr (by omega)
 by_cases hroom:n+m<=cap
 ·have iR:n*i.size+news.length<=cur.size:=by rw[hl,hcs,hz1,<-Nat.add_mul];exact Nat.mul_le_mul_right _ hroom
  have hr2:=run_append_room (P:=P) w t ty e i E.ht hi g n cap cur hg a m c news hl2 hnews h1 hroom iR;rw[hr]at hr2;cases hr2;exact .inl hk
 have holds:∀j u,xs[j]?=some u->w.cell? ((⟨g,0,none⟩:Addr).add j)=some u:=hown.cells (g:=g) rfl;have hr2:=run_append_grow (P:=P) w t ty e i z E.ht hi hz0 ⟨g,0,none⟩ n cap xs (by rw[hz1];exact hown.1) holds a m c news hl2 hnews (by omega) (by unfold maxLen at hm;omega) (growslice_fits (by omega) (by rw[hz2];exact hbytes));rw[hr]at hr2;cases hr2;simp[Value.ownBlock]at hk;exact .inr (by omega)
theorem tj(ty:TypeId)(E:fL P t e z size bytes)(base:Nat)(v:Value)(n:Nat)(xs:List Value)(hown:w.ownsRow base e size v n xs)(c:Nat)(a:Option Addr)(ha:a=none\/∃g,a=some ⟨g,0,none⟩):
  (Builtin.append_ #[t,t] ty #[v,.slice a 0 c]).run P w=.ok v w:=by
 obtain⟨i,hi,hz0,hz1,hz2⟩:=info_parts E.info;have hn:∃b cap,v=.slice b n cap/\n<=cap:=by
  rcases hown.2 with⟨rfl,rfl⟩ | ⟨g,cap,cur,rfl,_,_,N6,_⟩
  ·exact⟨none,0,rfl,Nat.le_refl _⟩
  exact⟨_,_,rfl,N6⟩
 obtain⟨b,cap,rfl,hle⟩:=hn;rcases ha with rfl | ⟨g,rfl⟩
 ·cases b<;>simp[Builtin.append_,run_underlying E.ht,sizeOf,typeInfo,hi,Builtin.lenOf,hle,run_firstCells_none,storeCells]
 have hf:=run_firstCells_some (P:=P) w i.size 0 ⟨g,0,none⟩ 0 c [] (by simp) (by simp);cases b<;>simp[Builtin.append_,run_underlying E.ht,sizeOf,typeInfo,hi,Builtin.lenOf,hle,hf,storeCells]
theorem tq(ty:TypeId)(E:fL P t e z size bytes)(hsz:0<size)(base:Nat)(v:Value)(n:Nat)(xs:List Value)(hown:w.ownsRow base e size v n xs)
  (uK:Nat) (u:Value) (m:Nat) (ys:List Value) (ym:w.ownsRow uK e size u m ys) (h1:∀u∈ys,u.oneCell'=true)
  (h63:n+m<100000000) (hbytes:(n+m)*bytes<=140737488355328) (hbase:base<=w.heap.size):
  ∃v' w',(Builtin.append_ #[t,t] ty #[v,u]).run P w=.ok v' w'/\w'.ownsRow base e size v' (n+m) (xs++ys)/\w.grownBy w' v.ownBlock/\(∀k,v'.ownBlock=some k->v.ownBlock=some k\/w.heap.size<=k):=by
 rcases Nat.eq_zero_or_pos m with rfl | hm
 ·have hy:ys=[]:=List.eq_nil_of_length_eq_zero (by simpa using ym.1);subst hy;obtain⟨a,c,rfl⟩:=aA ym;have ha:a=none\/∃g,a=some ⟨g,0,none⟩:=by
   rcases ym.2 with⟨he,_⟩ | ⟨g,cap,cur,he,_⟩
   ·cases he;exact .inl rfl
   cases he;exact .inr ⟨g,rfl⟩
  refine⟨v,w,tj ty E base v n xs hown c a ha,by simpa using hown,World.grownBy.refl _ _,fun k hk=>.inl hk⟩
 have pj:=fun g=>ym.cells (g:=g);rcases ym.2 with⟨rfl,rfl⟩ | ⟨g,cap,cur,rfl,_⟩
 ·have:=ym.1;simp at this;rcases this with h | h<;>omega
 exact yl ty E hsz base v n xs hown ⟨g,0,none⟩ m cap hm ys ym.1 (pj g rfl) h1 h63 hbytes hbase
theorem aR{o:Oper}{a:Act}{K:Act->World->Prop}{Q:Exit->Act->World->Prop}(s x:Operand)
  (ho:o.op=.call {callee:=.builtin .append,args:=#[s,x],argTypes:=#[t,t]}) (E:fL P t e z size bytes) (hsz:0<size)
  (base:Nat) (v:Value) (n:Nat) (xs:List Value) (hs:a.eval s=v) (hown:w.ownsRow base e size v n xs) (uK:Nat) (u:Value) (m:Nat) (ys:List Value) (hx:a.eval x=u) (ym:w.ownsRow uK e size u m ys) (h1:∀u∈ys,u.oneCell'=true)
  (h63:n+m<100000000) (hbytes:(n+m)*bytes<=140737488355328) (hbase:base<=w.heap.size)
  (h:∀v' w',w'.ownsRow base e size v' (n+m) (xs++ys)->w.grownBy w' v.ownBlock->(∀k,v'.ownBlock=some k->v.ownBlock=some k\/w.heap.size<=k)->K (a.put o.dst v') w'):o.wp P a w K Q:=by
 obtain⟨v',w',hr,h2,h3,h4⟩:=tq (P:=P) (w:=w) o.type E hsz base v n xs hown uK u m ys ym h1 h63 hbytes hbase;unfold Oper.wp execOp;simp only[ho,resolve,invoke,builtin,Sem.run_bind,Sem.run_pure,Result.andThen_ok,List.map_toArray,List.map_cons,List.map_nil,hs,hx,hr];exact h v' w' h2 h3 h4
end
end
section
attribute [local go_sem] Oper.semAt_some
theorem z8{w:World}{base:Nat}{e:TypeId}{v:Value}{n:Nat}{xs:List Value}(h:w.ownsRow base e 1 v n xs):∃a cap,v=.slice a n cap/\∀i x,xs[i]?=some x->∃g,a=some ⟨g,0,none⟩/\w.cell? ⟨g,i,none⟩=some x:=by
 obtain⟨hl,⟨rfl,rfl⟩ | ⟨g,cap,cur,rfl,_,hg,hn,_,hc,ht⟩⟩:=h
 ·refine⟨none,0,rfl,fun i x hx=>?_⟩;have:xs=[]:=List.eq_nil_of_length_eq_zero (by simpa using hl);subst this;simp at hx
 refine⟨_,_,rfl,fun i x hx=>⟨g,rfl,?_⟩⟩;have hlt:=(List.getElem?_eq_some_iff.1 hx).1;rw[<-ht]at hx;have h1:i<n*1:=by omega
 rw[List.getElem?_take_of_lt h1]at hx;simp[World.cell?,hg];simpa using hx
end
theorem N7:fL prog 50 9 (.string ⟨#[]⟩) 1 16:=⟨underlying50,by kernel_rfl,by kernel_rfl⟩
def uL(b:List UInt8):Value:=.string ⟨b.toArray⟩
structure SS where
 s:OS
 ps:List fg
 cs:List bP
section
attribute [local go_sem] Oper.semAt_some
end
section
section
variable {P:Program} {ops:Array Oper} {KQ:Exit->Act->World->Prop} {facts:List Fact} {taken:List Nat} {a:Act} {w:World}
theorem fX(i:Nat){oi:Oper}(hi:ops[i]?=some oi)(hB:iA ops (facts.map (·.1)) taken i=true)(hw:Region.wanted oi (yielded ops a.tmps)=true){t:TypeId}{x:Operand}{lo hi' mx:Option Operand}(hop:oi.op=.slice t x lo hi' mx)(hu:P.underlying t=some (.slice (P.elem t)))
  (v:Value) (hr:∀w',(Instr.slice t (a.eval x) (lo.map a.eval) (hi'.map a.eval) (mx.map a.eval)).run P w'=.ok v w')
  (h:atR P ops KQ facts (i::taken) (a.put oi.dst v) w):atR P ops KQ facts taken a w:=by
 refine fM i hi hB v hw (fun w' _=>?_) h;have hr2:∀w',(Instr.sliceAt t (a.eval x) (lo.map a.eval) (hi'.map a.eval) (mx.map a.eval)).run P w'=.ok v w':=fun w'=>(run_sliceAt_slice (h:=hu) ..).trans (hr w');simp only[execOp,hop,Sem.run_bind,hr2,Result.andThen_ok,Sem.run_pure]
end
end
theorem yo(w:World):Calls prog 318 #[.int .u64 0] w fun e w'=>e=.returned (.int .i64 0)/\w=w':=by go_enter func318,ntmps318;go_wp2;go_ret;refine⟨?_,rfl⟩;kernel_rfl
theorem Dj(w:World):Calls prog 287 #[.int .u64 0] w fun e w'=>e=.returned (.int .i64 0)/\w=w':=by
 have C:=af (yo);go_enter func287,ntmps287;go_wp2_with (go_at_call 318;refine(C _).mono ?_;rintro e w1 ⟨rfl,rfl⟩)
 go_ret;exact⟨rfl,rfl⟩
theorem insert_nil(f:Value)(w:World):Calls prog 309 #[.slice none 0 0,.int .i64 0,.int .i64 0,f] w fun e w'=>e=.returned (.tuple #[])/\w=w':=by
 go_enter func309,ntmps309;go_wp2;go_loopw [8] (fun i wr=>i=.int .i64 1/\w=wr) (fun _ _=>0)
 case atStart=>exact⟨rfl,rfl⟩
 case round=>
  obtain⟨rfl,rfl⟩:=hrel;go_wp2
  go_end0
  exact⟨rfl,rfl⟩
theorem Ob(f:Value)(w:World):Calls prog 286 #[.slice none 0 0,.int .i64 0,.int .i64 0,.int .i64 0,f] w fun e w'=>e=.returned (.tuple #[])/\w=w':=by
 have C:=af (insert_nil f);go_enter func286,ntmps286;go_wp2;go_loopw [1,2] (fun a b wr=>a=.int .i64 0/\b=.int .i64 0/\w=wr) (fun _ _ _=>0)
 case atStart=>exact⟨rfl,rfl,rfl⟩
 case round=>
  obtain⟨rfl,rfl,rfl⟩:=hrel;go_wp2_with (go_at_call 309;refine(C _).mono ?_;rintro e w1 ⟨rfl,rfl⟩)
  refine bodyPost_ret (results_none rfl _ _ _) rfl ?_;exact⟨rfl,rfl⟩
theorem Kl(f:Value)(w:World):Calls prog 265 #[.slice none 0 0,f] w fun e w'=>e=.returned (.tuple #[])/\w=w':=by
 have C1:=af (Dj);have C2:=af (Ob f);go_enter func265,ntmps265;go_wp2_with (first
  | (go_at_call 287;refine(C1 _).mono ?_;rintro e w1 ⟨rfl,rfl⟩)
  | (go_at_call 286;refine(C2 _).mono ?_;rintro e w1 ⟨rfl,rfl⟩))
 go_end0
 exact⟨rfl,rfl⟩
theorem Oc{P:Program}{code:Code}{Q:Exit->Act->World->Prop}{a:Act}{W:World}(C:World->Prop)(hC:C W)(h:∀W',C W'->code.wp P Q a W'):code.wp P Q a W:=h W hC
def bE(client:List UInt8)(seq id:Int):aP:=⟨1,client,seq,id,[],[],0,false,0⟩
theorem RY(bB room:Int)(client:List UInt8)(seq id:Int)(w:World)(hT:TzAt w)(hw:1<=bB/\bB<=100)(hr:1<=room/\room<=1000)(hs:0<=seq/\seq<=4611686018427387904)(hi:1<=id/\id<=65535)(hc:client.length<=23)(yr:fe (bE client seq id)=true):
  Calls prog 227 #[.int .i64 bB,.int .i64 room,.agg (bE client seq id).vals,.slice none 0 0] w fun e w'=>∃L,e=.returned (.tuple #[.pointer (some ⟨L.p,0,none⟩),.int .i64 0])/\
   OB w' w'.heap.size L ⟨client,bB,room,seq,id,[]⟩ [] []/\(L.vp=.slice none 0 0/\L.vc=.slice none 0 0)/\gO [] L.foot w w':=by
 have CK:=af fun w1=>uG client seq id w1 (by omega);rw[show fe ⟨1,client,seq,id,[],[],0,false,0⟩=true from yr]at CK;have CI:=af fun w1=>yh 100 w1 (by decide) (by decide);have CS:=af (Kl (.func (.func 266) #[] #[]));clear yr;unfold bE aP.vals at*
 dsimp only at CK ⊢;have d1:decide (bB<1)=false:=decide_eq_false (by omega);have d2:decide (100<bB)=false:=decide_eq_false (by omega);have d3:decide (room<1)=false:=decide_eq_false (by omega);have d4:decide (1000<room)=false:=decide_eq_false (by omega);have d5:decide (room<0)=false:=decide_eq_false (by omega);have d6:decide (id<1)=false:=decide_eq_false (by omega);have d7:decide (65535<id)=false:=decide_eq_false (by omega);go_enter func227,ntmps227;go_wp2;refine wp_scope_straight ?_;go_wp2_with fail
 refine(CI _).mono ?_;rintro e w1 ⟨rfl,cd,hb1⟩;simp only[World.size_alloc]at cd hb1 ⊢;have hS1:=(ar.new w #[.int .i64 1,.string ⟨client.toArray⟩,.int .i64 seq,.int .i64 id,.string ⟨#[]⟩,.string ⟨#[]⟩,.int .i64 0,.bool false,.int .i64 0] 136).ag (by simpa using hb1);have s0:w1.cell? ⟨w.heap.size,0,none⟩=some (.int .i64 1):=hS1.cell 0;have s1:w1.cell? ⟨w.heap.size,1,none⟩=some (.string ⟨client.toArray⟩):=hS1.cell 1;have s2:w1.cell? ⟨w.heap.size,2,none⟩=some (.int .i64 seq):=hS1.cell 2;have s3:w1.cell? ⟨w.heap.size,3,none⟩=some (.int .i64 id):=hS1.cell 3;have s4:w1.cell? ⟨w.heap.size,4,none⟩=some (.string ⟨#[]⟩):=hS1.cell 4;have s5:w1.cell? ⟨w.heap.size,5,none⟩=some (.string ⟨#[]⟩):=hS1.cell 5;have s6:w1.cell? ⟨w.heap.size,6,none⟩=some (.int .i64 0):=hS1.cell 6;have s7:w1.cell? ⟨w.heap.size,7,none⟩=some (.bool false):=hS1.cell 7;have s8:w1.cell? ⟨w.heap.size,8,none⟩=some (.int .i64 0):=hS1.cell 8;have cd:=af cd;go_wp2_with fail;refine(CK _).mono ?_;rintro e w2 ⟨rfl,hb2⟩;clear s0 s1 s2 s3 s4 s5 s6 s7 s8;have Fe:=hS1.ag hb2;have t1:w2.cell? ⟨w.heap.size,1,none⟩=some (.string ⟨client.toArray⟩):=Fe.cell 1;have t2:w2.cell? ⟨w.heap.size,2,none⟩=some (.int .i64 seq):=Fe.cell 2;have t3:w2.cell? ⟨w.heap.size,3,none⟩=some (.int .i64 id):=Fe.cell 3;go_wp2_with fail
 have V5:=af (cd.ag hb2);have V6:=af (((Below.refl _ w).alloc ah (.cells #[.int .i64 1,.string ⟨client.toArray⟩,.int .i64 seq,.int .i64 id,.string ⟨#[]⟩,.string ⟨#[]⟩,.int .i64 0,.bool false,.int .i64 0] 136)).trans ((hb1.mono (by omega)).trans (hb2.mono (by have:=hb1.size;simp at this;omega))));have hz2:w.heap.size+3<=w2.heap.size:=by have:=V5.box.lt;omega
 refine Oc (fun W'=>Below w2.heap.size w2 W'/\ar W' w2.heap.size #[.pointer (some ⟨w.heap.size+1+1,0,none⟩),.string ⟨client.toArray⟩,.int .i64 bB,.int .i64 room,.int .i64 seq,.int .i64 id,.slice none 0 0,.slice none 0 0,.slice none 0 0] 313) ⟨(Below.refl _ w2).alloc ah _,ar.new w2 _ _⟩ ?_;rintro w3 ⟨hb3,mB⟩;have k6:w3.cell? ⟨w2.heap.size,6,none⟩=some (.slice none 0 0):=mB.cell 6;go_loopw [73] (fun i wr=>i=.int .i64 0/\w3=wr) (fun _ _=>0)
 case atStart=>exact⟨rfl,rfl⟩
 case round=>
  obtain⟨rfl,rfl⟩:=hrel;go_wp2_with (go_at_call 265;refine(CS _).mono ?_;rintro e w4 ⟨rfl,rfl⟩)
  go_loopw [17] (fun i wr=>i=.int .i64 1/\w3=wr) (fun _ _=>0)
  case atStart=>exact⟨rfl,rfl⟩
  case round=>
   obtain⟨rfl,rfl⟩:=hrel;go_wp2;simp only[Exit.noGoto_ret]
   go_returns
   have V7:=V6.trans (hb3.mono V6.size);have hg:=hT.lt;refine⟨⟨w2.heap.size,w.heap.size+1+1,w.heap.size+1,.slice none 0 0,.slice none 0 0,.slice none 0 0,[],fun _=>0⟩,rfl,⟨Nat.le_refl _,mB,V5.ag hb3,oB.nil,World.ownsRow_nil _ _ _ _,rfl,fun i b r h1 h2=>by simp at h1,List.nodup_nil,World.ownsRow_nil _ _ _ _,World.ownsRow_nil _ _ _ _,hT.ag V7,?_,?_⟩,⟨rfl,rfl⟩,ak.aK V7,?_⟩
   ·simp only[Lay.foot,blk,Value.ownBlock,Option.toList_none,List.append_nil,List.mem_cons,List.not_mem_nil,or_false,not_or];omega
   ·exact⟨hw,⟨hr.2,by simp;omega⟩,⟨hs.1,Int.le_trans hs.2 (by decide)⟩,hi,hc,fun r hr=>by simp at hr,by simp[dG],by simp[dG];omega⟩
   intro x hx;simp[Lay.foot,blk,Value.ownBlock]at hx;right;omega
def aP.cl(r:aP):List Value:=r.vals.toList
theorem yt:fL prog 122 136 (.agg (aP.vals ⟨0,[],0,0,[],[],0,false,0⟩)) 9 96:=⟨underlying122,by kernel_rfl,by kernel_rfl⟩
theorem aP.uN(r:aP):r.cl.length=9:=rfl
theorem aP.one(r:aP):∀u∈r.cl,u.oneCell'=true:=by simp[aP.cl,aP.vals,Value.oneCell']
def rF(w:World)(base:Nat)(v:Value)(l:List aP):Prop:=w.ownsRow base 136 9 v l.length (l.flatMap aP.cl)
theorem ar.range{w:World}{b:Nat}{cs:Array Value}{T:TypeId}(h:ar w b cs T):w.rangeAt b 0 cs.toList:=fun j v hj=>by rw[Nat.zero_add,h.cell j];simpa using hj
section
section
variable {P:Program} {w:World} {b:Nat} {cs:Array Value} {T:TypeId}
theorem aM(h:ar w b cs T)(ty:TypeId){d:TypeDesc}(hu:P.underlying ty=some d)(hd:d.isRow=true)(hi:(P.info? ty).map (·.size)=some cs.size):(Instr.loadAt ty (.pointer (some ⟨b,0,none⟩))).run P w=.ok (.agg cs) w:=by have:=run_loadAt_mid (P:=P) w b 0 ty cs.toList d h.range hu hd (by simpa using hi);simpa using this
theorem aj(h:ar w b cs T)(ty:TypeId){d:TypeDesc}(hu:P.underlying ty=some d)(hd:d.isRow=true)(hi:(P.info? ty).map (·.size)=some cs.size):(loadVar ty ⟨b,0,none⟩).run P w=.ok (.agg cs) w:=by have:=run_loadVar_mid (P:=P) w b 0 ty cs.toList d h.range hu hd (by simpa using hi);simpa using this
theorem tr{ops:Array Oper}{rest:List Oper}{op:Oper}{a:Act}{Q:Exit->Act->World->Prop}(hgd:op.guard=none)(ty:TypeId)(x:Operand)(ho:op.op=.load ty x)
  (b:Nat) (cs:Array Value) (hx:a.eval x=.pointer (some ⟨b,0,none⟩)) (hb:ar w b cs T) {d:TypeDesc} (hu:P.underlying ty=some d) (hd:d.isRow=true) (hi:(P.info? ty).map (·.size)=some cs.size)
  (h:wpList P ops Q rest (a.put op.dst (.agg cs)) w):wpList P ops Q (op::rest) a w:=
 wpList_load_mid hgd ty x ho b 0 hx cs.toList d hb.range hu hd (by simpa using hi) (by simpa using h)
theorem rG{ops:Array Oper}{rest:List Oper}{op:Oper}{a:Act}{Q:Exit->Act->World->Prop}(hgd:op.guard=none)(ty T:TypeId)(x y:Operand)(ho:op.op=.store ty x y)(n:Nat)(hs:∀w,(sizeOf ty).run P w=.ok n w)
  (b:Nat) (cur cs:Array Value) (hx:a.eval x=.pointer (some ⟨b,0,none⟩)) (hy:a.eval y=.agg cs) (hb:ar w b cur T) (h1:cs.size=n) (h2:cur.size=n) (ke:∀v∈cs.toList,v.oneCell'=true)
  (h:∀w',ar w' b cs T->ak [b] w w'->wpList P ops Q rest (a.put op.dst undef) w'):wpList P ops Q (op::rest) a w:=
 wpList_plain hgd fun _ hK=>mW ty T x y ho n hs b cur cs hx hy hb h1 h2 ke fun w' hb' hw'=>hK _ _ (h w' hb' hw')
theorem wL{ops:Array Oper}{rest:List Oper}{op:Oper}{a:Act}{Q:Exit->Act->World->Prop}{T:TypeId}(ty:TypeId){x:Operand}(ho:op.op=.load ty x){b:Nat}{cs:Array Value}(hx:a.eval x=.pointer (some ⟨b,0,none⟩))(hb:ar w b cs T){d:TypeDesc}(hu:P.underlying ty=some d)
  (h:wpList P ops Q rest (a.put op.dst (.agg cs)) w) (hgd:op.guard=none:=by rfl) (hd:d.isRow=true:=by rfl) (hi:(P.info? ty).map (·.size)=some cs.size:=by kernel_rfl):wpList P ops Q (op::rest) a w:=
 tr hgd ty x ho b cs hx hb hu hd hi h
theorem wS{ops:Array Oper}{rest:List Oper}{op:Oper}{a:Act}{Q:Exit->Act->World->Prop}(T:TypeId)(n:Nat){x y:Operand}(ho:op.op=.store T x y)
  (b:Nat) (cur cs:Array Value) (hx:a.eval x=.pointer (some ⟨b,0,none⟩)) (hy:a.eval y=.agg cs) (hb:ar w b cur T) (h1:cs.size=n) (h2:cur.size=n) (ke:∀v∈cs.toList,v.oneCell'=true)
  (h:∀w',ar w' b cs T->ak [b] w w'->wpList P ops Q rest (a.put op.dst undef) w') (hgd:op.guard=none:=by rfl) (hs:∀w,(sizeOf T).run P w=.ok n w:=by(intro w;kernel_rfl)):wpList P ops Q (op::rest) a w:=
 rG hgd T T x y ho n hs b cur cs hx hy hb h1 h2 ke h
theorem kK{o:Oper}{a:Act}{K:Act->World->Prop}{Q:Exit->Act->World->Prop}{t e:TypeId}{z:Value}{size bytes:Nat}(s x:Operand)
  (ho:o.op=.call {callee:=.builtin .append,args:=#[s,x],argTypes:=#[t,t]}) (E:fL P t e z size bytes) (hsz:0<size)
  (base:Nat) (v:Value) (n:Nat) (xs:List Value) (hs:a.eval s=v) (hown:w.ownsRow base e size v n xs) (g:Nat) (news:List Value) (T:TypeId) (hx:a.eval x=.slice (some ⟨g,0,none⟩) 1 1) (hg:ar w g news.toArray T) (hl:news.length=size) (h1:∀u∈news,u.oneCell'=true)
  (h63:n<100000000) (hbytes:(n+1)*bytes<=140737488355328) (hbase:base<=w.heap.size)
  (h:∀v' w',w'.ownsRow base e size v' (n+1) (xs++news)->w.grownBy w' v.ownBlock->(∀k,v'.ownBlock=some k->v.ownBlock=some k\/w.heap.size<=k)->K (a.put o.dst v') w'):o.wp P a w K Q:=by
 obtain⟨v',w',hr,h2,h3,h4⟩:=si (P:=P) (w:=w) o.type E hsz base v n xs hown ⟨g,0,none⟩ news hl (fun j u hj=>by
  have:=hg.cell j;simp only[List.getElem?_toArray]at this;rw[hj]at this;by_cases h0:j=0
  ·subst h0;simpa[Addr.add]using this
  simpa[Addr.add,h0]using this) h1 h63 hbytes hbase
 unfold Oper.wp execOp;simp only[ho,resolve,invoke,builtin,Sem.run_bind,Sem.run_pure,Result.andThen_ok,List.map_toArray,List.map_cons,List.map_nil,hs,hx,hr];exact h v' w' h2 h3 h4
theorem uO{fn:Func}{a b:Tmp}{t u:TypeId}(h:fn.results=#[.cell a t,.cell b u]){tmps:Array Value}{p q:Addr}(hp:tmps.getD a undef=.pointer (some p))(hq:tmps.getD b undef=.pointer (some q)){v x:Value}(hl:(loadVar t p).run P w=.ok v w)(hu:(loadVar u q).run P w=.ok x w):(results fn tmps).run P w=.ok (.tuple #[v,x]) w:=by rw[Array.getD_eq_getD_getElem?]at hp hq;simp[results,h,hp,hq,asAddr,hl,hu]
theorem ft{fn:Func}{a b c:Tmp}{t:TypeId}(h:fn.results=#[.cell a t,.tmp b,.tmp c]){tmps:Array Value}{p:Addr}(hp:tmps.getD a undef=.pointer (some p)){v x y:Value}(hl:(loadVar t p).run P w=.ok v w)(hx:tmps.getD b undef=x)(hy:tmps.getD c undef=y):(results fn tmps).run P w=.ok (.tuple #[v,x,y]) w:=by rw[Array.getD_eq_getD_getElem?]at hp hx hy;simp[results,h,hp,hx,hy,asAddr,hl]
end
theorem ar.aw{w w':World}{b:Nat}{cs:Array Value}{T:TypeId}(h:ar w b cs T){M:List Nat}(hw:ak M w w')(hn:b∉M):ar w' b cs T:=h.wrote hw hn
section
variable {P:Program} {ops:Array Oper} {KQ:Exit->Act->World->Prop} {facts:List Fact} {taken:List Nat} {a:Act} {w:World}
end
section
variable {P:Program} {ops:Array Oper}
end
end
theorem flat_get{α:Type}(f:α->List Value)(size:Nat)(hf:∀x,(f x).length=size):∀(l:List α)(k j:Nat)(x:α),l[k]?=some x->j<size->(l.flatMap f)[k*size+j]?=(f x)[j]?
 | [],k,j,x,h,_=>by simp at h
 |y::l,0,j,x,h,hj=>by simp only[List.getElem?_cons_zero,Option.some.injEq]at h;subst h;rw[List.flatMap_cons,Nat.zero_mul,Nat.zero_add,List.getElem?_append_left (by rw[hf];exact hj)]
 |y::l,k+1,j,x,h,hj=>by rw[List.getElem?_cons_succ]at h;rw[List.flatMap_cons,List.getElem?_append_right (by rw[hf,Nat.add_mul];omega),hf,show(k+1)*size+j-size=k*size+j by rw[Nat.add_mul];omega];exact flat_get f size hf l k j x h hj
theorem jB{α:Type}(f:α->List Value){size:Nat}(hf:∀x,(f x).length=size){w:World}{base:Nat}{e:TypeId}{a:Option Addr}{cap:Nat}{l:List α}{n:Nat}(hn:l.length=n)(h:w.ownsRow base e size (.slice a n cap) n (l.flatMap f)){k:Nat}{x:α}(hx:l[k]?=some x):
  ∃g,a=some ⟨g,0,none⟩/\n<=cap/\w.rangeAt g (k*size) (f x):=by
 have hk:=(List.getElem?_eq_some_iff.1 hx).1;have hc:=fun g=>h.cells (g:=g);obtain⟨_,⟨he,h0⟩ | ⟨g,cap',cur,he,_,_,hn,_⟩⟩:=h
 ·omega
 cases he;refine⟨g,rfl,hn,fun j v hj=>?_⟩;have hjs:j<size:=by have:=(List.getElem?_eq_some_iff.1 hj).1;rw[hf]at this;exact this
 have:=hc g rfl (k*size+j) v (by rw[flat_get f size hf l k j x hx hjs];exact hj);rw[Addr.add_mid,Nat.zero_add]at this;exact this
theorem uP(z:Int)(w:World):Calls prog 176 #[.int .i64 z] w fun e w'=>e=.returned (.bool (decide (0<=z)&&decide (z<=4611686018427387904)))/\w=w':=by
 by_cases h:0<=z
 ·go_enter func176,ntmps176;go_wp2;go_ret;simp[h]
 have d:decide (0<=z)=false:=decide_eq_false h;go_enter func176,ntmps176;go_wp2;go_ret;simp[d]
theorem Dk(s:List UInt8)(w:World)(hs:s.length<=1000000):
  Calls prog 175 #[.string ⟨s.toArray⟩] w fun e w'=>e=.returned (.bool (cN s))/\Below w.heap.size w w':=by
 have hsz:ByteArray.size ⟨s.toArray⟩=s.length:=by simp[ByteArray.size]
 have fin:∀b:Bool,cN s=b->Ending.returned (.bool b)=.returned (.bool (cN s)):=fun b h=>by rw[h]
 have HF:=af fin;clear fin;by_cases h1:s.length<1
 ·have d1:decide ((s.length:Int)<1)=true:=decide_eq_true (by omega);have HB:=af (show cN s=false by have:s=[]:=List.eq_nil_of_length_eq_zero (by omega);subst this;rfl)
  go_enter func175,ntmps175;go_wp2;go_ret;exact⟨HF _ HB.out,Below.refl _ _⟩
 have e1:s.isEmpty=false:=by cases s<;>simp at h1 ⊢
 have d1:decide ((s.length:Int)<1)=false:=decide_eq_false (by omega);by_cases h2:s.length<=23
 ·have d2:decide ((23:Int)<(s.length:Int))=false:=decide_eq_false (by omega);have CR:=af (rE s w hs);have HB:=af (show cN s=decide (cr s= -1) by unfold cN;rw[e1];simp[h2]);go_enter func175,ntmps175;go_wp2_with fail
  refine CR.mono ?_;rintro e w1 ⟨hb,⟨hw,v,rfl, -⟩ | ⟨hw,rfl⟩⟩
  ·have hb:=af hb;go_wp2;go_ret;exact⟨HF _ (by rw[HB.out,hw];rfl),hb.out⟩
  have dw:decide (cr s<0)=false:=decide_eq_false (by omega);have hb:=af hb;go_wp2;go_ret;exact⟨HF _ (by rw[HB.out];simp;omega),hb.out⟩
 have d2:decide ((23:Int)<(s.length:Int))=true:=decide_eq_true (by omega);have HB:=af (show cN s=false by unfold cN;rw[e1];simp[h2]);go_enter func175,ntmps175;go_wp2;go_ret;exact⟨HF _ HB.out,Below.refl _ _⟩
theorem xo(s:List UInt8)(w:World)(hs:s.length<=2000000):
  Calls prog 180 #[.string ⟨s.toArray⟩] w fun e w'=>e=.returned (.bool (dp s))/\Below w.heap.size w w':=by
 have hsz:ByteArray.size ⟨s.toArray⟩=s.length:=by simp[ByteArray.size]
 have fin:∀b:Bool,dp s=b->Ending.returned (.bool b)=.returned (.bool (dp s)):=fun b h=>by rw[h]
 have HF:=af fin;clear fin;by_cases h1:s.length<1
 ·have d1:decide ((s.length:Int)<1)=true:=decide_eq_true (by omega);have HB:=af (show dp s=false by have:s=[]:=List.eq_nil_of_length_eq_zero (by omega);subst this;rfl)
  go_enter func180,ntmps180;go_wp2;go_ret;exact⟨HF _ HB.out,Below.refl _ _⟩
 have e1:s.isEmpty=false:=by cases s<;>simp at h1 ⊢
 have d1:decide ((s.length:Int)<1)=false:=decide_eq_false (by omega);by_cases h2:s.length<=200
 ·have d2:decide ((200:Int)<(s.length:Int))=false:=decide_eq_false (by omega);have CR:=af (rE s w (by omega));have HB:=af (show dp s=decide (cr s= -1) by unfold dp;rw[e1];simp[h2]);go_enter func180,ntmps180;go_wp2_with fail
  refine CR.mono ?_;rintro e w1 ⟨hb,⟨hw,v,rfl, -⟩ | ⟨hw,rfl⟩⟩
  ·have hb:=af hb;go_wp2;go_ret;exact⟨HF _ (by rw[HB.out,hw];rfl),hb.out⟩
  have dw:decide (cr s<0)=false:=decide_eq_false (by omega);have hb:=af hb;go_wp2;go_ret;exact⟨HF _ (by rw[HB.out];simp;omega),hb.out⟩
 have d2:decide ((200:Int)<(s.length:Int))=true:=decide_eq_true (by omega);have HB:=af (show dp s=false by unfold dp;rw[e1];simp[h2]);go_enter func180,ntmps180;go_wp2;go_ret;exact⟨HF _ HB.out,Below.refl _ _⟩
def eL(s:List UInt8):Nat:=(s.filter fun b=>b==43||b==35).length
theorem Dl(s:List UInt8)(k:Nat)(b:UInt8)(h:s[k]?=some b):eL (s.take (k+1))=eL (s.take k)+(if b==43||b==35 then 1 else 0):=by unfold eL;rw[List.take_add_one,h,Option.toList_some,List.filter_append,List.length_append];congr 1;by_cases hb:(b==43||b==35)=true<;>simp[hb]
theorem xp(s:List UInt8):decide (eL s=0)= !ya s:=by
 unfold ya Lib.containsAny;induction s with
 | nil=>rfl
 | cons b s ih=>
  have jw:=Lib.indexAny_ge [43,35] s;have hcon:([43,35]:List UInt8).contains b=(b==43||b==35):=by simp[List.contains_cons,beq_iff_eq];rfl
  unfold Lib.indexAny;rw[hcon];have hs:eL (b::s)=(if (b==43||b==35)=true then 1 else 0)+eL s:=by unfold eL;rw[List.filter_cons];split<;>simp<;>omega
  rw[hs];by_cases hb:(b==43||b==35)=true
  ·rw[if_pos hb,if_pos hb];simp
  rw[if_neg hb,if_neg hb,Nat.zero_add,ih];by_cases h0:Lib.indexAny s [43,35]= -1
  ·simp[h0]
  rw[if_neg (by simpa using h0)];have h1:0<=Lib.indexAny s [43,35]:=by omega
  have h2:0<=Lib.indexAny s [43,35]+1:=by omega
  simp[h1,h2]
theorem xq(s:List UInt8)(w:World)(hs:s.length<=2000000):
  Calls prog 181 #[.string ⟨s.toArray⟩] w fun e w'=>e=.returned (.int .i64 (eL s))/\w=w':=by
 have hsz:ByteArray.size ⟨s.toArray⟩=s.length:=by simp[ByteArray.size]
 go_enter func181,ntmps181;go_wp2;go_loopw [3,4] (fun n i wr=>∃k:Nat,n=.int .i64 (eL (s.take k):Nat)/\i=.int .i64 k/\k<=s.length/\w=wr) (fun _ i _=>s.length-(intOf i).toNat)
 case atStart=>exact⟨0,rfl,rfl,Nat.zero_le _,rfl⟩
 case round=>
  obtain⟨k,rfl,rfl,hk,rfl⟩:=hrel;rcases Nat.lt_or_ge k s.length with hlt | jw
  ·have dk:decide ((k:Int)<(s.length:Int))=true:=decide_eq_true (by omega);obtain⟨b,hb⟩:∃b,s[k]?=some b:=⟨_,List.getElem?_eq_getElem hlt⟩;have Rz:∀h,(⟨s.toArray⟩:ByteArray)[k]'h=b:=fun h=>by have:s[k]'hlt=b:=(List.getElem?_eq_some_iff.1 hb).2;exact this
   have hst:=af (Dl s k b hb);have hle:eL (s.take k)<=k:=by unfold eL;have:=List.length_filter_le (fun b=>b==43||b==35) (s.take k);rw[List.length_take]at this;omega
   obtain⟨m,hm⟩:=ae (eL (s.take k):Nat);rw[hm]at hle;by_cases h1:b=43
   ·have e1:(((b.toNat:Nat):Int)==43)=true:=by rw[h1];rfl
    have hst:=af (show eL (s.take (k+1))=m+1 by rw[hst.out,hm,h1];rfl);rw[hm];clear hm;go_wp2;go_roundw
    case rel=>exact⟨k+1,by rw[hst.out];go_num,by go_num,hlt,trivial⟩
    case measure=>simp[intOf];omega
   have e1:(((b.toNat:Nat):Int)==43)=false:=by rw[beq_eq_false_iff_ne];intro h;exact h1 (UInt8.toNat_inj.1 (show b.toNat=43 by omega))
   by_cases h2:b=35
   ·have e2:(((b.toNat:Nat):Int)==35)=true:=by rw[h2];rfl
    have hst:=af (show eL (s.take (k+1))=m+1 by rw[hst.out,hm,h2];rfl);rw[hm];clear hm;go_wp2;go_roundw
    case rel=>exact⟨k+1,by rw[hst.out];go_num,by go_num,hlt,trivial⟩
    case measure=>simp[intOf];omega
   have e2:(((b.toNat:Nat):Int)==35)=false:=by rw[beq_eq_false_iff_ne];intro h;exact h2 (UInt8.toNat_inj.1 (show b.toNat=35 by omega))
   have hst:=af (show eL (s.take (k+1))=m by rw[hst.out,hm];simp[h1,h2]);rw[hm];clear hm;go_wp2;go_roundw
   case rel=>exact⟨k+1,by rw[hst.out],by go_num,hlt,trivial⟩
   case measure=>simp[intOf];omega
  obtain rfl:k=s.length:=by omega
  have dk:decide ((s.length:Int)<(s.length:Int))=false:=by simp
  go_wp2;go_ret;exact⟨by simp,rfl⟩
theorem xr(s:List UInt8)(w:World)(hs:s.length<=2000000):
  Calls prog 115 #[.string ⟨s.toArray⟩] w fun e w'=>e=.returned (.bool (en s))/\Below w.heap.size w w':=by
 have fin:∀b:Bool,en s=b->Ending.returned (.bool b)=.returned (.bool (en s)):=fun b h=>by rw[h]
 have HF:=af fin;clear fin;have CS:=af (xo s w hs);have CG:=af fun w=>xq s w hs;have HN:=af (show en s=(dp s&&decide (eL s=0)) by rw[xp];rfl);cases hq:dp s
 ·rw[hq]at CS HN;clear hq;go_enter func115,ntmps115;go_wp2_with (go_at_call 180;refine CS.mono ?_;rintro e w1 ⟨rfl,hb⟩)
  go_ret;exact⟨HF _ HN.out,hb⟩
 rw[hq]at CS HN;clear hq;have HM:=af (show en s=decide (eL s=0) by rw[HN.out];rfl);obtain⟨m,hm⟩:=ae (eL s:Nat);rw[hm]at CG HM;clear hm;go_enter func115,ntmps115;go_wp2_with (first | (go_at_call 180;refine CS.mono ?_;rintro e w1 ⟨rfl,hb⟩) | (go_at_call 181;refine(CG _).mono ?_;rintro e w2 ⟨rfl,rfl⟩))
 go_ret;refine⟨HF _ ?_,hb⟩;rw[HM.out];by_cases h:m=0<;>simp[h]
structure gp where
 topic:List UInt8
 body:List UInt8
 qos:Int
 retain:Bool
def gp.vals(v:gp):Array Value:=#[.string ⟨v.topic.toArray⟩,.string ⟨v.body.toArray⟩,.int .i64 v.qos,.bool v.retain]
def dx:gp:=⟨[],[],0,false⟩
structure XS where
 most:Int
 subs:Int
 o:OS
 ids:List Nat
 wants:WL
 clean:Bool
 on:Bool
 keep:Int
 heard:Int
 will:Option gp
structure om where
 p:Nat
 o:Lay
 ib:Nat
 sb:Nat
 m:Nat
 wv:Option Nat
 W:Nat->Nat
def om.own(S:om):List Nat:=S.p::S.ib::S.sb::S.m::S.wv.toList
def om.foot(S:om):List Nat:=S.own++S.o.foot
def aa0(b:Option Nat):Value:=.pointer (b.map fun b=>⟨b,0,none⟩)
def om.cells(S:om)(x:XS):Array Value:=#[.pointer (some ⟨S.o.p,0,none⟩),.int .i64 x.o.bB,.int .i64 x.o.room,.int .i64 x.most,.int .i64 x.subs,.pointer (some ⟨S.ib,0,none⟩),.map (some S.m),.bool x.clean,.bool x.on,.int .i64 x.keep,.int .i64 x.heard,aa0 S.wv]
def RZ(w:World):Option Nat->Option gp->Prop
 | none,none=>True
 | some b,some v=>ar w b v.vals 47
 | _,_=>False
structure XS.OK (x:XS):Prop where
 most:1<=x.most/\x.most<=1000
 subs:1<=x.subs/\x.subs<=100
 ids:∀i∈x.ids,1<=i/\i<=65535
 under:(x.ids.length:Int)<=x.most
 wants:(x.wants.length:Int)<=x.subs
 keep:0<=x.keep/\x.keep<=65535
structure XB (w:World)(B:Nat)(S:om)(x:XS):Prop where
 box:ar w S.p (S.cells x) 276
 ob:OB w B S.o x.o [] []
 nil:S.o.vp=.slice none 0 0/\S.o.vc=.slice none 0 0
 Kf:Inb w S.ib S.sb x.most S.W
 set:oB S.W x.ids
 wm:WM w S.m x.wants
 will:RZ w S.wv x.will
 apart:∀b∈S.own,b∉S.o.foot
 nodup:S.own.Nodup
 gg:1∉S.own
 ok:x.OK
section
section
variable {P:Program} {w:World}
theorem wu(cur:Array Value)(j:Nat)(v:Value)(hj:j<cur.size):(cur.toList.take j++[v]++cur.toList.drop (j+1)).toArray=cur.setIfInBounds j v:=by obtain⟨l⟩:=cur;simp only[List.size_toArray]at hj;simp only[List.setIfInBounds_toArray];congr 1;rw[List.set_eq_take_append_cons_drop,if_pos hj];simp
theorem uR(t T:TypeId)(hs:∀w,(sizeOf t).run P w=.ok 1 w){b j:Nat}{cur:Array Value}{v:Value}(hb:ar w b cur T)(hj:j<cur.size)(hv:v.cells=#[v])(h1:v.oneCell'=true):
  (Instr.storeAt t (.pointer (some ⟨b,j,none⟩)) v).run P w=.ok () (w.setRow b (cur.setIfInBounds j v)):=by
 have hr:=run_storeCells_at P b j T [v] 0 cur w hb (by simp;omega) (by simpa using h1);simp only[Nat.add_zero,List.length_singleton]at hr;rw[wu cur j v hj]at hr;simp[Instr.storeAt,Instr.sureAddr,storeVar,hs,hv,hr]
theorem aC{o:Oper}{a:Act}{K:Act->World->Prop}{Q:Exit->Act->World->Prop}(t T:TypeId)(x y:Operand)(ho:o.op=.store t x y)(hs:∀w,(sizeOf t).run P w=.ok 1 w)(b j:Nat)(cur:Array Value)(v:Value)
  (hx:a.eval x=.pointer (some ⟨b,j,none⟩)) (hy:a.eval y=v) (hb:ar w b cur T) (hj:j<cur.size) (hv:v.cells=#[v]) (h1:v.oneCell'=true)
  (h:∀w',ar w' b (cur.setIfInBounds j v) T->ak [b] w w'->K (a.put o.dst undef) w'):o.wp P a w K Q:=by
 have hr:=uR (P:=P) t T hs hb hj hv h1;unfold Oper.wp execOp;simp only[ho,hx,hy,Sem.run_bind,hr,Result.andThen_ok,Sem.run_pure];simp only[Oper.upon];exact h _ (setRow_heap w b cur _ T (0,0) hb) (lW b _)
theorem aq{ops:Array Oper}{rest:List Oper}{op:Oper}{a:Act}{Q:Exit->Act->World->Prop}(hgd:op.guard=none)(t T:TypeId)(x y:Operand)(ho:op.op=.store t x y)(hs:∀w,(sizeOf t).run P w=.ok 1 w)(b j:Nat)(cur:Array Value)(v:Value)
  (hx:a.eval x=.pointer (some ⟨b,j,none⟩)) (hy:a.eval y=v) (hb:ar w b cur T) (hj:j<cur.size) (hv:v.cells=#[v]) (h1:v.oneCell'=true)
  (h:∀w',ar w' b (cur.setIfInBounds j v) T->ak [b] w w'->wpList P ops Q rest (a.put op.dst undef) w'):wpList P ops Q (op::rest) a w:=
 wpList_plain hgd fun _ hK=>aC t T x y ho hs b j cur v hx hy hb hj hv h1 fun w' hb' hw'=>hK _ _ (h w' hb' hw')
end
theorem ak.fu{M N:List Nat}{a b c:World}(h:ak M a b)(k:ak N b c)(hN:∀x∈N,a.heap.size<=x):ak M a c:=
 ⟨k.os.trans h.os,k.tape.trans h.tape,k.output.trans h.output,Nat.le_trans h.size k.size,fun i hi hm=>(k.block i (Nat.lt_of_lt_of_le hi h.size) (fun hx=>by have:=hN i hx;omega)).trans (h.block i hi hm)⟩
theorem aS{P:Program}{w:World}{fn:Func}{a b:Tmp}{t:TypeId}(h:fn.results=#[.cell a t,.tmp b]){tmps:Array Value}{p:Addr}(hp:tmps.getD a undef=.pointer (some p)){v x:Value}(hl:(loadVar t p).run P w=.ok v w)(hx:tmps.getD b undef=x):(results fn tmps).run P w=.ok (.tuple #[v,x]) w:=by rw[Array.getD_eq_getD_getElem?]at hp hx;simp[results,h,hp,hx,asAddr,hl]
end
end Go.Proofs.YtkghejaimhoboaaGreatDoor
