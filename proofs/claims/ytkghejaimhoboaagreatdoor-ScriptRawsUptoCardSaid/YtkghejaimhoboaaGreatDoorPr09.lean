/- Parts of the proof of ScriptRaws. -/
import Derived.Test.YtkghejaimhoboaaGreatDoorPr07
import Derived.Great.BuildSlice
import Derived.Test.YtkghejaimhoboaaGreatDoorPr04
import Derived.Lib.SliceRun
import Derived.Deep.MidRow
import Derived.Test.YtkghejaimhoboaaGreatDoorPr08
set_option linter.unusedSimpArgs false
set_option linter.unusedVariables false
set_option maxRecDepth 100000
set_option maxHeartbeats 8000000
namespace Go.Proofs.YtkghejaimhoboaaGreatDoor
open Go.RowKit Go.Shelf Go.Proofs.Tryz
def OS.row(s:OS)(topic body:List UInt8)(qos:Int)(retain:Bool):RowV:=⟨3,s.client,s.seq,0,topic,body,qos,retain,1⟩
def OS.put(s:OS)(r:RowV):OS:={s with l:=s.l++[r],seq:=s.seq+1}
theorem Blk.new_at(w:World)(cs:Array Value)(T:TypeId)(n:Nat)(h:w.heap.size=n):Blk (w.alloc (.cells cs T)) n cs T:=by subst h;exact Blk.new w cs T
theorem ob_rebase2{w:World}{B:Nat}{L:Lay}{s:OS}(h:OB w B L s [] [])(hn:L.vp=.slice none 0 0/\L.vc=.slice none 0 0):OB w w.heap.size L s [] []:=by obtain⟨p,ib,sb,vl,vp,vc,rb,W⟩:=L;dsimp only at hn;obtain⟨rfl,rfl⟩:=hn;exact OB.rebase (L:=⟨p,ib,sb,vl,.slice none 0 0,.slice none 0 0,rb,W⟩) h nat_le_rfl
section
section
variable {P:Program} {w:World}
theorem setRow_wrote(b:Nat)(cs:Array Value):Wrote [b] w (w.setRow b cs):=⟨rfl,rfl,rfl,by simp[World.setRow],fun k _ hk=>setRow_other w b k cs (fun e=>hk (by simp[e]))⟩
theorem run_store_whole(t T:TypeId)(n:Nat)(hs:∀w,(sizeOf t).run P w=.ok n w){b:Nat}{cur cs:Array Value}(hb:Blk w b cur T)(h1:cs.size=n)(h2:cur.size=n)(ho1:∀v∈cs.toList,v.oneCell'=true):
  (Instr.storeAt t (.pointer (some ⟨b,0,none⟩)) (.agg cs)).run P w=.ok () (w.setRow b cs):=by
 have hr:=run_storeCells_at P b 0 T cs.toList 0 cur w hb (by simp;omega) ho1;have e1:(cur.toList.take (0+0)++cs.toList++cur.toList.drop (0+0+cs.toList.length)).toArray=cs:=by rw[List.drop_eq_nil_of_le (by simp;omega)];simp
 rw[e1]at hr;have hc:(Value.agg cs).cells=cs:=rfl;simp[Instr.storeAt,Instr.sureAddr,storeVar,hs,hc,h1,hr]
theorem wp_store_whole{o:Oper}{a:Act}{K:Act->World->Prop}{Q:Exit->Act->World->Prop}(t T:TypeId)(x y:Operand)(ho:o.op=.store t x y)(n:Nat)(hs:∀w,(sizeOf t).run P w=.ok n w)(b:Nat)(cur cs:Array Value)
  (hx:a.eval x=.pointer (some ⟨b,0,none⟩)) (hy:a.eval y=.agg cs) (hb:Blk w b cur T) (h1:cs.size=n) (h2:cur.size=n) (ho1:∀v∈cs.toList,v.oneCell'=true)
  (h:∀w',Blk w' b cs T->Wrote [b] w w'->K (a.put o.dst undef) w'):o.wp P a w K Q:=by
 have hr:=run_store_whole (P:=P) t T n hs hb h1 h2 ho1;unfold Oper.wp execOp;simp only[ho,hx,hy,Sem.run_bind,hr,Result.andThen_ok,Sem.run_pure];simp only[Oper.upon];exact h _ (setRow_heap w b cur cs T (0,0) hb) (setRow_wrote b cs)
theorem wW{o:Oper}{a:Act}{K:Act->World->Prop}{Q:Exit->Act->World->Prop}(T:TypeId)(n:Nat){x y:Operand}(ho:o.op=.store T x y)(b:Nat)(cur cs:Array Value)
  (hx:a.eval x=.pointer (some ⟨b,0,none⟩)) (hy:a.eval y=.agg cs) (hb:Blk w b cur T) (h1:cs.size=n) (h2:cur.size=n) (ho1:∀v∈cs.toList,v.oneCell'=true)
  (h:∀w',Blk w' b cs T->Wrote [b] w w'->K (a.put o.dst undef) w') (hs:∀w,(sizeOf T).run P w=.ok n w:=by(intro w;kernel_rfl)):o.wp P a w K Q:=wp_store_whole T T x y ho n hs b cur cs hx hy hb h1 h2 ho1 h
theorem results_cell1{fn:Func}{a:Tmp}{t:TypeId}(h:fn.results=#[.cell a t]){tmps:Array Value}{p:Addr}(hp:tmps.getD a undef=.pointer (some p)){v:Value}(hl:(loadVar t p).run P w=.ok v w):(results fn tmps).run P w=.ok v w:=by rw[Array.getD_eq_getD_getElem?]at hp;simp[results,h,hp,asAddr,hl]
end
def RowV.pub(r:RowV)(dup:Bool):PackV:=⟨3,dup,r.retain,r.qos,r.topic,r.body,r.id⟩
theorem wp_slice_one{P:Program}{o:Oper}{a:Act}{w:World}{K:Act->World->Prop}{Q:Exit->Act->World->Prop}{t e:TypeId}{z:Value}{size bytes:Nat}(x:Operand)(ho:o.op=.buildSlice t 1 #[(0,x)])(E:ElemT P t e z size bytes)(hs:0<size)(hs2:size<=100)
  (v:Value) (hx:a.eval x=v) (hv:v.cells.size=size) (h:K (a.put o.dst (.slice (some ⟨w.heap.size,0,none⟩) 1 1)) (w.alloc (.cells v.cells e))):o.wp P a w K Q:=by
 obtain⟨i,hi,hz0,hz1,hz2⟩:=info_parts E.info;refine wp_buildSlice t e 1 #[(0,x)] ho v.cells i z E.ht hi hz0 (by rw[hz1];omega) (by rw[hz1];omega) ?_ h;have hz3:=E.hzs;have:=Go.Great.fill_whole (s:=size) hs [v] ((Array.range (1*size)).map (z.cells[· %z.cells.size]!)) (by simp[hv]) (by simp);rw[hz1];simpa[hx]using this
end
section
section
variable {P:Program} {w:World} {t e:TypeId} {z:Value} {size bytes:Nat}
theorem run_append_m(ty:TypeId)(E:ElemT P t e z size bytes)(hsz:0<size)(base:Nat)(v:Value)(n:Nat)(xs:List Value)(hown:w.ownsRow base e size v n xs)
  (a:Addr) (m c:Nat) (hm1:0<m) (news:List Value) (hl:news.length=m*size) (hnews:∀j u,news[j]?=some u->w.cell? (a.add j)=some u) (h1:∀u∈news,u.oneCell'=true)
  (h63:n+m<100000000) (hbytes:(n+m)*bytes<=140737488355328) (hbase:base<=w.heap.size):
  ∃v' w',(Builtin.append_ #[t,t] ty #[v,.slice (some a) m c]).run P w=.ok v' w'/\w'.ownsRow base e size v' (n+m) (xs++news)/\w.grownBy w' v.ownBlock/\(∀k,v'.ownBlock=some k->v.ownBlock=some k\/w.heap.size<=k):=by
 obtain⟨i,hi,hz0,hz1,hz2⟩:=info_parts E.info;have hm:n+m<=maxLen:=by unfold maxLen;omega
 obtain⟨v',w',hr,h2,h3,_⟩:=run_append_own (P:=P) w base t ty e i z size bytes E.ht hi hz0 hz1 hz2 E.hzs hsz v n xs hown a m c news hl hnews h1 hm hbytes hbase;refine⟨v',w',hr,h2,h3,fun k hk=>?_⟩;have hl2:news.length=m*i.size:=by rw[hz1];exact hl
 rcases hown.2 with⟨rfl,rfl⟩ | ⟨g,cap,cur,rfl,hbg,hg,hnc,hcm,hcs,htake⟩
 ·have hr2:=run_append_nil (P:=P) w t ty e i z E.ht hi hz0 a m c news hl2 hnews (by omega) (by omega) (by rw[hz2];simp at hbytes;omega);rw[hr]at hr2;cases hr2;simp[Value.ownBlock]at hk;exact .inr (by omega)
 by_cases hroom:n+m<=cap
 ·have hfit:n*i.size+news.length<=cur.size:=by rw[hl,hcs,hz1,<-Nat.add_mul];exact Nat.mul_le_mul_right _ hroom
  have hr2:=run_append_room (P:=P) w t ty e i E.ht hi g n cap cur hg a m c news hl2 hnews h1 hroom hfit;rw[hr]at hr2;cases hr2;exact .inl hk
 have holds:∀j u,xs[j]?=some u->w.cell? ((⟨g,0,none⟩:Addr).add j)=some u:=hown.cells (g:=g) rfl;have hr2:=run_append_grow (P:=P) w t ty e i z E.ht hi hz0 ⟨g,0,none⟩ n cap xs (by rw[hz1];exact hown.1) holds a m c news hl2 hnews (by omega) (by unfold maxLen at hm;omega) (growslice_fits (by omega) (by rw[hz2];exact hbytes));rw[hr]at hr2;cases hr2;simp[Value.ownBlock]at hk;exact .inr (by omega)
theorem run_append_none(ty:TypeId)(E:ElemT P t e z size bytes)(base:Nat)(v:Value)(n:Nat)(xs:List Value)(hown:w.ownsRow base e size v n xs)(c:Nat)(a:Option Addr)(ha:a=none\/∃g,a=some ⟨g,0,none⟩):
  (Builtin.append_ #[t,t] ty #[v,.slice a 0 c]).run P w=.ok v w:=by
 obtain⟨i,hi,hz0,hz1,hz2⟩:=info_parts E.info;have hn:∃b cap,v=.slice b n cap/\n<=cap:=by
  rcases hown.2 with⟨rfl,rfl⟩ | ⟨g,cap,cur,rfl,_,_,hnc,_⟩
  ·exact⟨none,0,rfl,Nat.le_refl _⟩
  exact⟨_,_,rfl,hnc⟩
 obtain⟨b,cap,rfl,hle⟩:=hn;rcases ha with rfl | ⟨g,rfl⟩
 ·cases b<;>simp[Builtin.append_,run_underlying E.ht,sizeOf,typeInfo,hi,Builtin.lenOf,hle,run_firstCells_none,storeCells]
 have hf:=run_firstCells_some (P:=P) w i.size 0 ⟨g,0,none⟩ 0 c [] (by simp) (by simp);cases b<;>simp[Builtin.append_,run_underlying E.ht,sizeOf,typeInfo,hi,Builtin.lenOf,hle,hf,storeCells]
theorem run_append_rows(ty:TypeId)(E:ElemT P t e z size bytes)(hsz:0<size)(base:Nat)(v:Value)(n:Nat)(xs:List Value)(hown:w.ownsRow base e size v n xs)
  (base2:Nat) (u:Value) (m:Nat) (ys:List Value) (hsrc:w.ownsRow base2 e size u m ys) (h1:∀u∈ys,u.oneCell'=true)
  (h63:n+m<100000000) (hbytes:(n+m)*bytes<=140737488355328) (hbase:base<=w.heap.size):
  ∃v' w',(Builtin.append_ #[t,t] ty #[v,u]).run P w=.ok v' w'/\w'.ownsRow base e size v' (n+m) (xs++ys)/\w.grownBy w' v.ownBlock/\(∀k,v'.ownBlock=some k->v.ownBlock=some k\/w.heap.size<=k):=by
 rcases Nat.eq_zero_or_pos m with rfl | hm
 ·have hy:ys=[]:=List.eq_nil_of_length_eq_zero (by simpa using hsrc.1);subst hy;obtain⟨a,c,rfl⟩:=own_slice hsrc;have ha:a=none\/∃g,a=some ⟨g,0,none⟩:=by
   rcases hsrc.2 with⟨he,_⟩ | ⟨g,cap,cur,he,_⟩
   ·cases he;exact .inl rfl
   cases he;exact .inr ⟨g,rfl⟩
  refine⟨v,w,run_append_none ty E base v n xs hown c a ha,by simpa using hown,World.grownBy.refl _ _,fun k hk=>.inl hk⟩
 have hcells:=fun g=>hsrc.cells (g:=g);rcases hsrc.2 with⟨rfl,rfl⟩ | ⟨g,cap,cur,rfl,_⟩
 ·have:=hsrc.1;simp at this;rcases this with h | h<;>omega
 exact run_append_m ty E hsz base v n xs hown ⟨g,0,none⟩ m cap hm ys hsrc.1 (hcells g rfl) h1 h63 hbytes hbase
theorem wp_append_rows{o:Oper}{a:Act}{K:Act->World->Prop}{Q:Exit->Act->World->Prop}(s x:Operand)
  (ho:o.op=.call {callee:=.builtin .append,args:=#[s,x],argTypes:=#[t,t]}) (E:ElemT P t e z size bytes) (hsz:0<size)
  (base:Nat) (v:Value) (n:Nat) (xs:List Value) (hs:a.eval s=v) (hown:w.ownsRow base e size v n xs) (base2:Nat) (u:Value) (m:Nat) (ys:List Value) (hx:a.eval x=u) (hsrc:w.ownsRow base2 e size u m ys) (h1:∀u∈ys,u.oneCell'=true)
  (h63:n+m<100000000) (hbytes:(n+m)*bytes<=140737488355328) (hbase:base<=w.heap.size)
  (h:∀v' w',w'.ownsRow base e size v' (n+m) (xs++ys)->w.grownBy w' v.ownBlock->(∀k,v'.ownBlock=some k->v.ownBlock=some k\/w.heap.size<=k)->K (a.put o.dst v') w'):o.wp P a w K Q:=by
 obtain⟨v',w',hr,h2,h3,h4⟩:=run_append_rows (P:=P) (w:=w) o.type E hsz base v n xs hown base2 u m ys hsrc h1 h63 hbytes hbase;unfold Oper.wp execOp;simp only[ho,resolve,invoke,builtin,Sem.run_bind,Sem.run_pure,Result.andThen_ok,List.map_toArray,List.map_cons,List.map_nil,hs,hx,hr];exact h v' w' h2 h3 h4
end
end
section
attribute [local go_sem] Oper.semAt_some
theorem own_cell{w:World}{base:Nat}{e:TypeId}{v:Value}{n:Nat}{xs:List Value}(h:w.ownsRow base e 1 v n xs):∃a cap,v=.slice a n cap/\∀i x,xs[i]?=some x->∃g,a=some ⟨g,0,none⟩/\w.cell? ⟨g,i,none⟩=some x:=by
 obtain⟨hl,⟨rfl,rfl⟩ | ⟨g,cap,cur,rfl,_,hg,hn,_,hc,ht⟩⟩:=h
 ·refine⟨none,0,rfl,fun i x hx=>?_⟩;have:xs=[]:=List.eq_nil_of_length_eq_zero (by simpa using hl);subst this;simp at hx
 refine⟨_,_,rfl,fun i x hx=>⟨g,rfl,?_⟩⟩;have hlt:=(List.getElem?_eq_some_iff.1 hx).1;rw[<-ht]at hx;have h1:i<n*1:=by omega
 rw[List.getElem?_take_of_lt h1]at hx;simp[World.cell?,hg];simpa using hx
end
theorem eStr:ElemT prog 50 9 (.string ⟨#[]⟩) 1 16:=⟨underlying50,by kernel_rfl,by kernel_rfl⟩
def wStr(b:List UInt8):Value:=.string ⟨b.toArray⟩
def RowV.sent(r:RowV)(y:Int):RowV:={r with id:=y,stage:=2}
structure SS where
 s:OS
 ps:List PackV
 cs:List ChangeV
def SS.send(x:SS)(i:Nat):SS:=
 if x.s.window<=(idsOf x.s.l).length then x else
 match x.s.l[i]? with
 | none=>x
 |some r=>
  let y:=firstI (idsOf x.s.l).length x.s.id (idsOf x.s.l)
  ⟨{x.s with l:=x.s.l.set i (r.sent y),id:=y%65535+1},x.ps++[(r.sent y).pub false],x.cs++[⟨false,r.sent y⟩]⟩
def SS.sends(x:SS)(q:List Nat):SS:=q.foldl SS.send x
theorem ids_set(l:List RowV)(i:Nat)(r r':RowV)(h:l[i]?=some r)(h1:r.stage=1)(h2:r'.stage≠1):(r'.id.toNat::idsOf l).Perm (idsOf (l.set i r')):=by
 induction l generalizing i with
 | nil=>simp at h
 | cons x l ih=>
  cases i with
  |zero=>simp at h;subst h;simp[idsOf,h1,h2]
  | succ i=>
   simp at h;have:=ih i h;by_cases hx:x.stage=1
   ·simpa[idsOf,hx]using this
   have e1:idsOf (x::l)=x.id.toNat::idsOf l:=by simp[idsOf,hx]
   have e2:idsOf ((x::l).set (i+1) r')=x.id.toNat::idsOf (l.set i r'):=by simp[idsOf,hx]
   rw[e1,e2];exact(List.Perm.swap _ _ _).trans (this.cons _)
theorem OB.sent{w w':World}{B:Nat}{L:Lay}{s:OS}{ps:List PackV}{cs:List ChangeV}(h:OB w B L s ps cs)(i b:Nat)(r:RowV)(hb:L.rb[i]?=some b)(hr:s.l[i]?=some r)(hs:r.stage=1)(y:Int)(hy:1<=y/\y<=65535)
  (hnot:y.toNat∉idsOf s.l) (hund:((idsOf s.l).length:Int)<s.window) (hw:Wrote [b,L.sb] w w') (hbl:Blk w' b (r.sent y).vals 136) (hin:Inb w' L.ib L.sb 100 (tog L.W y.toNat)):
  OB w' B {L with W:=tog L.W y.toNat} {s with l:=s.l.set i (r.sent y)} ps cs:=by
 have hrow:=h.cells i b r hb hr;have hperm:=ids_set s.l i r (r.sent y) hr hs (by simp[RowV.sent]);have hn:∀{T:TypeId}{x:Nat}{c:Array Value},Blk w x c T->T≠136->T≠306->x∉[b,L.sb]:=fun hx h1 h2 hm=>by
  simp at hm;rcases hm with hm | hm
  ·exact(hx.ne hrow h1) hm
  exact(hx.ne h.inb.set h2) hm
 have hrw:∀{base:Nat}{e:TypeId}{size:Nat}{v:Value}{n:Nat}{xs:List Value},w.ownsRow base e size v n xs->e≠136->e≠306->w'.ownsRow base e size v n xs:=fun hx h1 h2=>not_own hx hw fun x hm hbk=>by
  simp at hm;rcases hm with rfl | rfl
  ·exact block_not_row hrow (Ne.symm h1) hx (mem_blk.1 hbk).symm
  exact block_not_row h.inb.set (Ne.symm h2) hx (mem_blk.1 hbk).symm
 have hbf:b∈L.foot:=by simp[Lay.foot,List.mem_of_getElem? hb]
 refine⟨Nat.le_trans h.base hw.size,h.box.wrote hw (hn h.box (by decide) (by decide)),hin,(h.set.come (by omega) hnot).perm hperm,?_,?_,?_,h.nodup,hrw h.packs (by decide) (by decide),hrw h.chgs (by decide) (by decide),h.tz.wrote hw ?_,h.gg,?_⟩
 ·have:=hrw h.rows (by decide) (by decide);simpa using this
 ·simpa using h.len
 ·intro j b' r' h1 h2;dsimp only at h1 h2;by_cases e:j=i
  ·subst e;rw[hb]at h1;cases h1;have hlt:=(List.getElem?_eq_some_iff.1 hr).1;rw[List.getElem?_set_self hlt]at h2;cases h2;exact hbl
  rw[List.getElem?_set_ne (Ne.symm e)]at h2;have hc:=h.cells j b' r' h1 h2;refine hc.wrote hw fun hm=>?_;simp at hm;rcases hm with rfl | hm
  ·have hlt1:=(List.getElem?_eq_some_iff.1 h1).1;exact e ((List.getElem?_inj hlt1 h.nodup).1 (h1.trans hb.symm))
  exact(hc.ne h.inb.set (by decide)) hm
 ·intro hm;simp at hm;rcases hm with hm | hm
  ·exact h.gg (hm▸hbf)
  exact h.gg (by simp[Lay.foot,hm])
 have hok:=h.ok;refine⟨hok.win,by simpa using hok.room,hok.seq,hok.id,hok.cl,?_,hperm.nodup_iff.1 (List.nodup_cons.2 ⟨hnot,hok.nodup⟩),?_⟩
 ·intro x hx hst;rcases List.mem_or_eq_of_mem_set hx with hx | hx
  ·exact hok.ids x hx hst
  subst hx;exact hy
 have:=hperm.length_eq;simp only[List.length_cons]at this;show((idsOf (s.l.set i (r.sent y))).length:Int)<=s.window;omega
section
attribute [local go_sem] Oper.semAt_some
structure SInv (w0:World)(B:Nat)(L:Lay)(x0:SS)(c c2:Nat)(pre:List Nat)(W:World):Prop where
 ob:∃vp vc V,OB W B {L with vp:=vp,vc:=vc,W:=V} (x0.sends pre).s (x0.sends pre).ps (x0.sends pre).cs/\(∀x∈({L with vp:=vp,vc:=vc,W:=V}:Lay).foot,x∈L.foot\/w0.heap.size+2<=x)
 wrote:Wrote L.foot w0 W
 box:Boxed W c 270 (.pointer (some ⟨L.p,0,none⟩))
 box2:Boxed W c2 270 (.pointer (some ⟨L.p,0,none⟩))
theorem SInv.out{w0:World}{B:Nat}{L:Lay}{x0:SS}{c c2:Nat}{pre:List Nat}{W W':World}(h:SInv w0 B L x0 c c2 pre W){M:List Nat}(hw:Wrote M W W')(hM:∀x∈M,x∉L.foot/\x<w0.heap.size+2/\w0.heap.size<=x)(hc:c<w0.heap.size)(hc2:c2<w0.heap.size)(hgg:1<w0.heap.size):SInv w0 B L x0 c c2 pre W':=by
 obtain⟨vp,vc,V,hO,hs⟩:=h.ob;refine⟨⟨vp,vc,V,hO.out hw (fun x hx hf=>?_) (fun hm=>by have:=(hM _ hm).2.2;omega),hs⟩,⟨hw.os.trans h.wrote.os,hw.tape.trans h.wrote.tape,hw.output.trans h.wrote.output,Nat.le_trans h.wrote.size hw.size,fun i hi hm=>(hw.block i (Nat.lt_of_lt_of_le hi h.wrote.size) (fun hx=>by have:=(hM i hx).2.2;omega)).trans (h.wrote.block i hi hm)⟩,hw.boxed (fun hm=>by have:=(hM _ hm).2.2;omega) h.box,hw.boxed (fun hm=>by have:=(hM _ hm).2.2;omega) h.box2⟩;have h1:=hM x hx;rcases hs x hf with h2 | h2
 ·exact h1.1 h2
 omega
end
def RowV.has(z:Int)(r:RowV):Bool:=decide (r.stage≠1)&&decide (r.id=z)
section
section
variable {P:Program} {ops:Array Oper} {KQ:Exit->Act->World->Prop} {facts:List Fact} {taken:List Nat} {a:Act} {w:World}
theorem sliceQ(i:Nat){oi:Oper}(hi:ops[i]?=some oi)(hB:takeB ops (facts.map (·.1)) taken i=true)(hw:Region.wanted oi (yielded ops a.tmps)=true){t:TypeId}{x:Operand}{lo hi' mx:Option Operand}(hop:oi.op=.slice t x lo hi' mx)(hu:P.underlying t=some (.slice (P.elem t)))
  (v:Value) (hr:∀w',(Instr.slice t (a.eval x) (lo.map a.eval) (hi'.map a.eval) (mx.map a.eval)).run P w'=.ok v w')
  (h:atR P ops KQ facts (i::taken) (a.put oi.dst v) w):atR P ops KQ facts taken a w:=by
 refine readQ i hi hB v hw (fun w' _=>?_) h;have hr2:∀w',(Instr.sliceAt t (a.eval x) (lo.map a.eval) (hi'.map a.eval) (mx.map a.eval)).run P w'=.ok v w':=fun w'=>(run_sliceAt_slice (h:=hu) ..).trans (hr w');simp only[execOp,hop,Sem.run_bind,hr2,Result.andThen_ok,Sem.run_pure]
end
end
structure Nigh (x y:SS):Prop where
 client:y.s.client=x.s.client
 seq:y.s.seq=x.s.seq
 ps:y.ps.length<=x.ps.length+1
 cs:y.cs.length<=x.cs.length+1
theorem Nigh.refl(x:SS):Nigh x x:=⟨rfl,rfl,by omega,by omega⟩
theorem bits_Len64_0(w:World):Calls prog 318 #[.int .u64 0] w fun e w'=>e=.returned (.int .i64 0)/\w=w':=by go_enter func318,ntmps318;go_wp2;go_ret;refine⟨?_,rfl⟩;kernel_rfl
theorem bits_Len_0(w:World):Calls prog 287 #[.int .u64 0] w fun e w'=>e=.returned (.int .i64 0)/\w=w':=by
 have C:=hid (bits_Len64_0);go_enter func287,ntmps287;go_wp2_with (go_at_call 318;refine(C _).mono ?_;rintro e w1 ⟨rfl,rfl⟩)
 go_ret;exact⟨rfl,rfl⟩
theorem insert_nil(f:Value)(w:World):Calls prog 309 #[.slice none 0 0,.int .i64 0,.int .i64 0,f] w fun e w'=>e=.returned (.tuple #[])/\w=w':=by
 go_enter func309,ntmps309;go_wp2;go_loopw [8] (fun i wr=>i=.int .i64 1/\w=wr) (fun _ _=>0)
 case atStart=>exact⟨rfl,rfl⟩
 case round=>
  obtain⟨rfl,rfl⟩:=hrel;go_wp2
  go_end0
  exact⟨rfl,rfl⟩
theorem pdq_nil(f:Value)(w:World):Calls prog 286 #[.slice none 0 0,.int .i64 0,.int .i64 0,.int .i64 0,f] w fun e w'=>e=.returned (.tuple #[])/\w=w':=by
 have C:=hid (insert_nil f);go_enter func286,ntmps286;go_wp2;go_loopw [1,2] (fun a b wr=>a=.int .i64 0/\b=.int .i64 0/\w=wr) (fun _ _ _=>0)
 case atStart=>exact⟨rfl,rfl,rfl⟩
 case round=>
  obtain⟨rfl,rfl,rfl⟩:=hrel;go_wp2_with (go_at_call 309;refine(C _).mono ?_;rintro e w1 ⟨rfl,rfl⟩)
  refine bodyPost_ret (results_none rfl _ _ _) rfl ?_;exact⟨rfl,rfl⟩
theorem sort_nil(f:Value)(w:World):Calls prog 265 #[.slice none 0 0,f] w fun e w'=>e=.returned (.tuple #[])/\w=w':=by
 have C1:=hid (bits_Len_0);have C2:=hid (pdq_nil f);go_enter func265,ntmps265;go_wp2_with (first
  | (go_at_call 287;refine(C1 _).mono ?_;rintro e w1 ⟨rfl,rfl⟩)
  | (go_at_call 286;refine(C2 _).mono ?_;rintro e w1 ⟨rfl,rfl⟩))
 go_end0
 exact⟨rfl,rfl⟩
theorem wp_genW{P:Program}{code:Code}{Q:Exit->Act->World->Prop}{a:Act}{W:World}(C:World->Prop)(hC:C W)(h:∀W',C W'->code.wp P Q a W'):code.wp P Q a W:=h W hC
def sessV(client:List UInt8)(seq id:Int):RowV:=⟨1,client,seq,id,[],[],0,false,0⟩
theorem out_Of(window room:Int)(client:List UInt8)(seq id:Int)(w:World)(hT:TzAt w)(hw:1<=window/\window<=100)(hr:1<=room/\room<=1000)(hs:0<=seq/\seq<=4611686018427387904)(hi:1<=id/\id<=65535)(hc:client.length<=23)(hmay:sessMay (sessV client seq id)=true):
  Calls prog 227 #[.int .i64 window,.int .i64 room,.agg (sessV client seq id).vals,.slice none 0 0] w fun e w'=>∃L,e=.returned (.tuple #[.pointer (some ⟨L.p,0,none⟩),.int .i64 0])/\
   OB w' w'.heap.size L ⟨client,window,room,seq,id,[]⟩ [] []/\(L.vp=.slice none 0 0/\L.vc=.slice none 0 0)/\Stp [] L.foot w w':=by
 have CK:=hid fun w1=>rec_Check_sess client seq id w1 (by omega);rw[show sessMay ⟨1,client,seq,id,[],[],0,false,0⟩=true from hmay]at CK;have CI:=hid fun w1=>in_New 100 w1 (by decide) (by decide);have CS:=hid (sort_nil (.func (.func 266) #[] #[]));clear hmay;unfold sessV RowV.vals at*
 dsimp only at CK ⊢;have d1:decide (window<1)=false:=decide_eq_false (by omega);have d2:decide (100<window)=false:=decide_eq_false (by omega);have d3:decide (room<1)=false:=decide_eq_false (by omega);have d4:decide (1000<room)=false:=decide_eq_false (by omega);have d5:decide (room<0)=false:=decide_eq_false (by omega);have d6:decide (id<1)=false:=decide_eq_false (by omega);have d7:decide (65535<id)=false:=decide_eq_false (by omega);go_enter func227,ntmps227;go_wp2;refine wp_scope_straight ?_;go_wp2_with fail
 refine(CI _).mono ?_;rintro e w1 ⟨rfl,hin,hb1⟩;simp only[World.size_alloc]at hin hb1 ⊢;have hS1:=(Blk.new w #[.int .i64 1,.string ⟨client.toArray⟩,.int .i64 seq,.int .i64 id,.string ⟨#[]⟩,.string ⟨#[]⟩,.int .i64 0,.bool false,.int .i64 0] 136).below (by simpa using hb1);have s0:w1.cell? ⟨w.heap.size,0,none⟩=some (.int .i64 1):=hS1.cell 0;have s1:w1.cell? ⟨w.heap.size,1,none⟩=some (.string ⟨client.toArray⟩):=hS1.cell 1;have s2:w1.cell? ⟨w.heap.size,2,none⟩=some (.int .i64 seq):=hS1.cell 2;have s3:w1.cell? ⟨w.heap.size,3,none⟩=some (.int .i64 id):=hS1.cell 3;have s4:w1.cell? ⟨w.heap.size,4,none⟩=some (.string ⟨#[]⟩):=hS1.cell 4;have s5:w1.cell? ⟨w.heap.size,5,none⟩=some (.string ⟨#[]⟩):=hS1.cell 5;have s6:w1.cell? ⟨w.heap.size,6,none⟩=some (.int .i64 0):=hS1.cell 6;have s7:w1.cell? ⟨w.heap.size,7,none⟩=some (.bool false):=hS1.cell 7;have s8:w1.cell? ⟨w.heap.size,8,none⟩=some (.int .i64 0):=hS1.cell 8;have hin:=hid hin;go_wp2_with fail;refine(CK _).mono ?_;rintro e w2 ⟨rfl,hb2⟩;clear s0 s1 s2 s3 s4 s5 s6 s7 s8;have hS2:=hS1.below hb2;have t1:w2.cell? ⟨w.heap.size,1,none⟩=some (.string ⟨client.toArray⟩):=hS2.cell 1;have t2:w2.cell? ⟨w.heap.size,2,none⟩=some (.int .i64 seq):=hS2.cell 2;have t3:w2.cell? ⟨w.heap.size,3,none⟩=some (.int .i64 id):=hS2.cell 3;go_wp2_with fail
 have hin2:=hid (hin.below hb2);have hB02:=hid (((Below.refl _ w).alloc nat_le_rfl (.cells #[.int .i64 1,.string ⟨client.toArray⟩,.int .i64 seq,.int .i64 id,.string ⟨#[]⟩,.string ⟨#[]⟩,.int .i64 0,.bool false,.int .i64 0] 136)).trans ((hb1.mono (by omega)).trans (hb2.mono (by have:=hb1.size;simp at this;omega))));have hz2:w.heap.size+3<=w2.heap.size:=by have:=hin2.box.lt;omega
 refine wp_genW (fun W'=>Below w2.heap.size w2 W'/\Blk W' w2.heap.size #[.pointer (some ⟨w.heap.size+1+1,0,none⟩),.string ⟨client.toArray⟩,.int .i64 window,.int .i64 room,.int .i64 seq,.int .i64 id,.slice none 0 0,.slice none 0 0,.slice none 0 0] 313) ⟨(Below.refl _ w2).alloc nat_le_rfl _,Blk.new w2 _ _⟩ ?_;rintro w3 ⟨hb3,hbox3⟩;have k6:w3.cell? ⟨w2.heap.size,6,none⟩=some (.slice none 0 0):=hbox3.cell 6;go_loopw [73] (fun i wr=>i=.int .i64 0/\w3=wr) (fun _ _=>0)
 case atStart=>exact⟨rfl,rfl⟩
 case round=>
  obtain⟨rfl,rfl⟩:=hrel;go_wp2_with (go_at_call 265;refine(CS _).mono ?_;rintro e w4 ⟨rfl,rfl⟩)
  go_loopw [17] (fun i wr=>i=.int .i64 1/\w3=wr) (fun _ _=>0)
  case atStart=>exact⟨rfl,rfl⟩
  case round=>
   obtain⟨rfl,rfl⟩:=hrel;go_wp2;simp only[Exit.noGoto_ret]
   go_returns
   have hB03:=hB02.trans (hb3.mono hB02.size);have hg:=hT.lt;refine⟨⟨w2.heap.size,w.heap.size+1+1,w.heap.size+1,.slice none 0 0,.slice none 0 0,.slice none 0 0,[],fun _=>0⟩,rfl,⟨Nat.le_refl _,hbox3,hin2.below hb3,SetIs.nil,World.ownsRow_nil _ _ _ _,rfl,fun i b r h1 h2=>by simp at h1,List.nodup_nil,World.ownsRow_nil _ _ _ _,World.ownsRow_nil _ _ _ _,hT.below hB03,?_,?_⟩,⟨rfl,rfl⟩,Wrote.of_below hB03,?_⟩
   ·simp only[Lay.foot,blk,Value.ownBlock,Option.toList_none,List.append_nil,List.mem_cons,List.not_mem_nil,or_false,not_or];omega
   ·exact⟨hw,⟨hr.2,by simp;omega⟩,⟨hs.1,Int.le_trans hs.2 (by decide)⟩,hi,hc,fun r hr=>by simp at hr,by simp[idsOf],by simp[idsOf];omega⟩
   intro x hx;simp[Lay.foot,blk,Value.ownBlock]at hx;right;omega
def RowV.cl(r:RowV):List Value:=r.vals.toList
theorem eRow:ElemT prog 122 136 (.agg (RowV.vals ⟨0,[],0,0,[],[],0,false,0⟩)) 9 96:=⟨underlying122,by kernel_rfl,by kernel_rfl⟩
theorem RowV.cllen(r:RowV):r.cl.length=9:=rfl
theorem RowV.one(r:RowV):∀u∈r.cl,u.oneCell'=true:=by simp[RowV.cl,RowV.vals,Value.oneCell']
def RowsAt(w:World)(base:Nat)(v:Value)(l:List RowV):Prop:=w.ownsRow base 136 9 v l.length (l.flatMap RowV.cl)
theorem Blk.range{w:World}{b:Nat}{cs:Array Value}{T:TypeId}(h:Blk w b cs T):w.rangeAt b 0 cs.toList:=fun j v hj=>by rw[Nat.zero_add,h.cell j];simpa using hj
section
section
variable {P:Program} {w:World} {b:Nat} {cs:Array Value} {T:TypeId}
theorem run_load_blk(h:Blk w b cs T)(ty:TypeId){d:TypeDesc}(hu:P.underlying ty=some d)(hd:d.isRow=true)(hi:(P.info? ty).map (·.size)=some cs.size):(Instr.loadAt ty (.pointer (some ⟨b,0,none⟩))).run P w=.ok (.agg cs) w:=by have:=run_loadAt_mid (P:=P) w b 0 ty cs.toList d h.range hu hd (by simpa using hi);simpa using this
theorem run_loadVar_blk(h:Blk w b cs T)(ty:TypeId){d:TypeDesc}(hu:P.underlying ty=some d)(hd:d.isRow=true)(hi:(P.info? ty).map (·.size)=some cs.size):(loadVar ty ⟨b,0,none⟩).run P w=.ok (.agg cs) w:=by have:=run_loadVar_mid (P:=P) w b 0 ty cs.toList d h.range hu hd (by simpa using hi);simpa using this
theorem wpList_load_blk{ops:Array Oper}{rest:List Oper}{op:Oper}{a:Act}{Q:Exit->Act->World->Prop}(hgd:op.guard=none)(ty:TypeId)(x:Operand)(ho:op.op=.load ty x)
  (b:Nat) (cs:Array Value) (hx:a.eval x=.pointer (some ⟨b,0,none⟩)) (hb:Blk w b cs T) {d:TypeDesc} (hu:P.underlying ty=some d) (hd:d.isRow=true) (hi:(P.info? ty).map (·.size)=some cs.size)
  (h:wpList P ops Q rest (a.put op.dst (.agg cs)) w):wpList P ops Q (op::rest) a w:=
 wpList_load_mid hgd ty x ho b 0 hx cs.toList d hb.range hu hd (by simpa using hi) (by simpa using h)
theorem wpList_store_blk{ops:Array Oper}{rest:List Oper}{op:Oper}{a:Act}{Q:Exit->Act->World->Prop}(hgd:op.guard=none)(ty T:TypeId)(x y:Operand)(ho:op.op=.store ty x y)(n:Nat)(hs:∀w,(sizeOf ty).run P w=.ok n w)
  (b:Nat) (cur cs:Array Value) (hx:a.eval x=.pointer (some ⟨b,0,none⟩)) (hy:a.eval y=.agg cs) (hb:Blk w b cur T) (h1:cs.size=n) (h2:cur.size=n) (ho1:∀v∈cs.toList,v.oneCell'=true)
  (h:∀w',Blk w' b cs T->Wrote [b] w w'->wpList P ops Q rest (a.put op.dst undef) w'):wpList P ops Q (op::rest) a w:=
 wpList_plain hgd fun _ hK=>wp_store_whole ty T x y ho n hs b cur cs hx hy hb h1 h2 ho1 fun w' hb' hw'=>hK _ _ (h w' hb' hw')
theorem wL{ops:Array Oper}{rest:List Oper}{op:Oper}{a:Act}{Q:Exit->Act->World->Prop}{T:TypeId}(ty:TypeId){x:Operand}(ho:op.op=.load ty x){b:Nat}{cs:Array Value}(hx:a.eval x=.pointer (some ⟨b,0,none⟩))(hb:Blk w b cs T){d:TypeDesc}(hu:P.underlying ty=some d)
  (h:wpList P ops Q rest (a.put op.dst (.agg cs)) w) (hgd:op.guard=none:=by rfl) (hd:d.isRow=true:=by rfl) (hi:(P.info? ty).map (·.size)=some cs.size:=by kernel_rfl):wpList P ops Q (op::rest) a w:=
 wpList_load_blk hgd ty x ho b cs hx hb hu hd hi h
theorem wS{ops:Array Oper}{rest:List Oper}{op:Oper}{a:Act}{Q:Exit->Act->World->Prop}(T:TypeId)(n:Nat){x y:Operand}(ho:op.op=.store T x y)
  (b:Nat) (cur cs:Array Value) (hx:a.eval x=.pointer (some ⟨b,0,none⟩)) (hy:a.eval y=.agg cs) (hb:Blk w b cur T) (h1:cs.size=n) (h2:cur.size=n) (ho1:∀v∈cs.toList,v.oneCell'=true)
  (h:∀w',Blk w' b cs T->Wrote [b] w w'->wpList P ops Q rest (a.put op.dst undef) w') (hgd:op.guard=none:=by rfl) (hs:∀w,(sizeOf T).run P w=.ok n w:=by(intro w;kernel_rfl)):wpList P ops Q (op::rest) a w:=
 wpList_store_blk hgd T T x y ho n hs b cur cs hx hy hb h1 h2 ho1 h
theorem wp_append_grp{o:Oper}{a:Act}{K:Act->World->Prop}{Q:Exit->Act->World->Prop}{t e:TypeId}{z:Value}{size bytes:Nat}(s x:Operand)
  (ho:o.op=.call {callee:=.builtin .append,args:=#[s,x],argTypes:=#[t,t]}) (E:ElemT P t e z size bytes) (hsz:0<size)
  (base:Nat) (v:Value) (n:Nat) (xs:List Value) (hs:a.eval s=v) (hown:w.ownsRow base e size v n xs) (g:Nat) (news:List Value) (T:TypeId) (hx:a.eval x=.slice (some ⟨g,0,none⟩) 1 1) (hg:Blk w g news.toArray T) (hl:news.length=size) (h1:∀u∈news,u.oneCell'=true)
  (h63:n<100000000) (hbytes:(n+1)*bytes<=140737488355328) (hbase:base<=w.heap.size)
  (h:∀v' w',w'.ownsRow base e size v' (n+1) (xs++news)->w.grownBy w' v.ownBlock->(∀k,v'.ownBlock=some k->v.ownBlock=some k\/w.heap.size<=k)->K (a.put o.dst v') w'):o.wp P a w K Q:=by
 obtain⟨v',w',hr,h2,h3,h4⟩:=run_append2 (P:=P) (w:=w) o.type E hsz base v n xs hown ⟨g,0,none⟩ news hl (fun j u hj=>by
  have:=hg.cell j;simp only[List.getElem?_toArray]at this;rw[hj]at this;by_cases h0:j=0
  ·subst h0;simpa[Addr.add]using this
  simpa[Addr.add,h0]using this) h1 h63 hbytes hbase
 unfold Oper.wp execOp;simp only[ho,resolve,invoke,builtin,Sem.run_bind,Sem.run_pure,Result.andThen_ok,List.map_toArray,List.map_cons,List.map_nil,hs,hx,hr];exact h v' w' h2 h3 h4
theorem results_cc{fn:Func}{a b:Tmp}{t u:TypeId}(h:fn.results=#[.cell a t,.cell b u]){tmps:Array Value}{p q:Addr}(hp:tmps.getD a undef=.pointer (some p))(hq:tmps.getD b undef=.pointer (some q)){v x:Value}(hl:(loadVar t p).run P w=.ok v w)(hu:(loadVar u q).run P w=.ok x w):(results fn tmps).run P w=.ok (.tuple #[v,x]) w:=by rw[Array.getD_eq_getD_getElem?]at hp hq;simp[results,h,hp,hq,asAddr,hl,hu]
end
theorem Blk.keepW{w w':World}{b:Nat}{cs:Array Value}{T:TypeId}(h:Blk w b cs T){M:List Nat}(hw:Wrote M w w')(hn:b∉M):Blk w' b cs T:=h.wrote hw hn
theorem below_wrote{a w w':World}(h:Below a.heap.size a w){M:List Nat}(hw:Wrote M w w')(hM:∀x∈M,a.heap.size<=x):Below a.heap.size a w':=
 h.trans (hw.below h.size hM)
section
variable {P:Program} {ops:Array Oper} {KQ:Exit->Act->World->Prop} {facts:List Fact} {taken:List Nat} {a:Act} {w:World}
end
section
variable {P:Program} {ops:Array Oper}
end
end
theorem flat_get{α:Type}(f:α->List Value)(size:Nat)(hf:∀x,(f x).length=size):∀(l:List α)(k j:Nat)(x:α),l[k]?=some x->j<size->(l.flatMap f)[k*size+j]?=(f x)[j]?
 | [],k,j,x,h,_=>by simp at h
 |y::l,0,j,x,h,hj=>by simp only[List.getElem?_cons_zero,Option.some.injEq]at h;subst h;rw[List.flatMap_cons,Nat.zero_mul,Nat.zero_add,List.getElem?_append_left (by rw[hf];exact hj)]
 |y::l,k+1,j,x,h,hj=>by rw[List.getElem?_cons_succ]at h;rw[List.flatMap_cons,List.getElem?_append_right (by rw[hf,Nat.add_mul];omega),hf,show(k+1)*size+j-size=k*size+j by rw[Nat.add_mul];omega];exact flat_get f size hf l k j x h hj
theorem own_range{α:Type}(f:α->List Value){size:Nat}(hf:∀x,(f x).length=size){w:World}{base:Nat}{e:TypeId}{a:Option Addr}{cap:Nat}{l:List α}{n:Nat}(hn:l.length=n)(h:w.ownsRow base e size (.slice a n cap) n (l.flatMap f)){k:Nat}{x:α}(hx:l[k]?=some x):
  ∃g,a=some ⟨g,0,none⟩/\n<=cap/\w.rangeAt g (k*size) (f x):=by
 have hk:=(List.getElem?_eq_some_iff.1 hx).1;have hc:=fun g=>h.cells (g:=g);obtain⟨_,⟨he,h0⟩ | ⟨g,cap',cur,he,_,_,hn,_⟩⟩:=h
 ·omega
 cases he;refine⟨g,rfl,hn,fun j v hj=>?_⟩;have hjs:j<size:=by have:=(List.getElem?_eq_some_iff.1 hj).1;rw[hf]at this;exact this
 have:=hc g rfl (k*size+j) v (by rw[flat_get f size hf l k j x hx hjs];exact hj);rw[Addr.add_mid,Nat.zero_add]at this;exact this
theorem PackV.len(p:PackV):p.cells.length=24:=rfl
theorem ChangeV.len(c:ChangeV):c.cells.length=10:=rfl
theorem r19_number(z:Int)(w:World):Calls prog 176 #[.int .i64 z] w fun e w'=>e=.returned (.bool (decide (0<=z)&&decide (z<=4611686018427387904)))/\w=w':=by
 by_cases h:0<=z
 ·go_enter func176,ntmps176;go_wp2;go_ret;simp[h]
 have d:decide (0<=z)=false:=decide_eq_false h;go_enter func176,ntmps176;go_wp2;go_ret;simp[d]
theorem r19_client(s:List UInt8)(w:World)(hs:s.length<=1000000):
  Calls prog 175 #[.string ⟨s.toArray⟩] w fun e w'=>e=.returned (.bool (clientR s))/\Below w.heap.size w w':=by
 have hsz:ByteArray.size ⟨s.toArray⟩=s.length:=by simp[ByteArray.size]
 have fin:∀b:Bool,clientR s=b->Ending.returned (.bool b)=.returned (.bool (clientR s)):=fun b h=>by rw[h]
 have HF:=hid fin;clear fin;by_cases h1:s.length<1
 ·have d1:decide ((s.length:Int)<1)=true:=decide_eq_true (by omega);have HB:=hid (show clientR s=false by have:s=[]:=List.eq_nil_of_length_eq_zero (by omega);subst this;rfl)
  go_enter func175,ntmps175;go_wp2;go_ret;exact⟨HF _ HB.out,Below.refl _ _⟩
 have e1:s.isEmpty=false:=by cases s<;>simp at h1 ⊢
 have d1:decide ((s.length:Int)<1)=false:=decide_eq_false (by omega);by_cases h2:s.length<=23
 ·have d2:decide ((23:Int)<(s.length:Int))=false:=decide_eq_false (by omega);have CR:=hid (ref_Runes s w hs);have HB:=hid (show clientR s=decide (wrongU s= -1) by unfold clientR;rw[e1];simp[h2]);go_enter func175,ntmps175;go_wp2_with fail
  refine CR.mono ?_;rintro e w1 ⟨hb,⟨hw,v,rfl, -⟩ | ⟨hw,rfl⟩⟩
  ·have hb:=hid hb;go_wp2;go_ret;exact⟨HF _ (by rw[HB.out,hw];rfl),hb.out⟩
  have dw:decide (wrongU s<0)=false:=decide_eq_false (by omega);have hb:=hid hb;go_wp2;go_ret;exact⟨HF _ (by rw[HB.out];simp;omega),hb.out⟩
 have d2:decide ((23:Int)<(s.length:Int))=true:=decide_eq_true (by omega);have HB:=hid (show clientR s=false by unfold clientR;rw[e1];simp[h2]);go_enter func175,ntmps175;go_wp2;go_ret;exact⟨HF _ HB.out,Below.refl _ _⟩
theorem r13_said2(s:List UInt8)(w:World)(hs:s.length<=2000000):
  Calls prog 180 #[.string ⟨s.toArray⟩] w fun e w'=>e=.returned (.bool (saidR s))/\Below w.heap.size w w':=by
 have hsz:ByteArray.size ⟨s.toArray⟩=s.length:=by simp[ByteArray.size]
 have fin:∀b:Bool,saidR s=b->Ending.returned (.bool b)=.returned (.bool (saidR s)):=fun b h=>by rw[h]
 have HF:=hid fin;clear fin;by_cases h1:s.length<1
 ·have d1:decide ((s.length:Int)<1)=true:=decide_eq_true (by omega);have HB:=hid (show saidR s=false by have:s=[]:=List.eq_nil_of_length_eq_zero (by omega);subst this;rfl)
  go_enter func180,ntmps180;go_wp2;go_ret;exact⟨HF _ HB.out,Below.refl _ _⟩
 have e1:s.isEmpty=false:=by cases s<;>simp at h1 ⊢
 have d1:decide ((s.length:Int)<1)=false:=decide_eq_false (by omega);by_cases h2:s.length<=200
 ·have d2:decide ((200:Int)<(s.length:Int))=false:=decide_eq_false (by omega);have CR:=hid (ref_Runes s w (by omega));have HB:=hid (show saidR s=decide (wrongU s= -1) by unfold saidR;rw[e1];simp[h2]);go_enter func180,ntmps180;go_wp2_with fail
  refine CR.mono ?_;rintro e w1 ⟨hb,⟨hw,v,rfl, -⟩ | ⟨hw,rfl⟩⟩
  ·have hb:=hid hb;go_wp2;go_ret;exact⟨HF _ (by rw[HB.out,hw];rfl),hb.out⟩
  have dw:decide (wrongU s<0)=false:=decide_eq_false (by omega);have hb:=hid hb;go_wp2;go_ret;exact⟨HF _ (by rw[HB.out];simp;omega),hb.out⟩
 have d2:decide ((200:Int)<(s.length:Int))=true:=decide_eq_true (by omega);have HB:=hid (show saidR s=false by unfold saidR;rw[e1];simp[h2]);go_enter func180,ntmps180;go_wp2;go_ret;exact⟨HF _ HB.out,Below.refl _ _⟩
def signsR(s:List UInt8):Nat:=(s.filter fun b=>b==43||b==35).length
theorem signs_take(s:List UInt8)(k:Nat)(b:UInt8)(h:s[k]?=some b):signsR (s.take (k+1))=signsR (s.take k)+(if b==43||b==35 then 1 else 0):=by unfold signsR;rw[List.take_add_one,h,Option.toList_some,List.filter_append,List.length_append];congr 1;by_cases hb:(b==43||b==35)=true<;>simp[hb]
theorem signs_any(s:List UInt8):decide (signsR s=0)= !anyR s:=by
 unfold anyR Lib.containsAny;induction s with
 | nil=>rfl
 | cons b s ih=>
  have hge:=Lib.indexAny_ge [43,35] s;have hcon:([43,35]:List UInt8).contains b=(b==43||b==35):=by simp[List.contains_cons,beq_iff_eq];rfl
  unfold Lib.indexAny;rw[hcon];have hs:signsR (b::s)=(if (b==43||b==35)=true then 1 else 0)+signsR s:=by unfold signsR;rw[List.filter_cons];split<;>simp<;>omega
  rw[hs];by_cases hb:(b==43||b==35)=true
  ·rw[if_pos hb,if_pos hb];simp
  rw[if_neg hb,if_neg hb,Nat.zero_add,ih];by_cases h0:Lib.indexAny s [43,35]= -1
  ·simp[h0]
  rw[if_neg (by simpa using h0)];have h1:0<=Lib.indexAny s [43,35]:=by omega
  have h2:0<=Lib.indexAny s [43,35]+1:=by omega
  simp[h1,h2]
theorem r13_signs(s:List UInt8)(w:World)(hs:s.length<=2000000):
  Calls prog 181 #[.string ⟨s.toArray⟩] w fun e w'=>e=.returned (.int .i64 (signsR s))/\w=w':=by
 have hsz:ByteArray.size ⟨s.toArray⟩=s.length:=by simp[ByteArray.size]
 go_enter func181,ntmps181;go_wp2;go_loopw [3,4] (fun n i wr=>∃k:Nat,n=.int .i64 (signsR (s.take k):Nat)/\i=.int .i64 k/\k<=s.length/\w=wr) (fun _ i _=>s.length-(intOf i).toNat)
 case atStart=>exact⟨0,rfl,rfl,Nat.zero_le _,rfl⟩
 case round=>
  obtain⟨k,rfl,rfl,hk,rfl⟩:=hrel;rcases Nat.lt_or_ge k s.length with hlt | hge
  ·have dk:decide ((k:Int)<(s.length:Int))=true:=decide_eq_true (by omega);obtain⟨b,hb⟩:∃b,s[k]?=some b:=⟨_,List.getElem?_eq_getElem hlt⟩;have hix:∀h,(⟨s.toArray⟩:ByteArray)[k]'h=b:=fun h=>by have:s[k]'hlt=b:=(List.getElem?_eq_some_iff.1 hb).2;exact this
   have hst:=hid (signs_take s k b hb);have hle:signsR (s.take k)<=k:=by unfold signsR;have:=List.length_filter_le (fun b=>b==43||b==35) (s.take k);rw[List.length_take]at this;omega
   obtain⟨m,hm⟩:=gen_of (signsR (s.take k):Nat);rw[hm]at hle;by_cases h1:b=43
   ·have e1:(((b.toNat:Nat):Int)==43)=true:=by rw[h1];rfl
    have hst:=hid (show signsR (s.take (k+1))=m+1 by rw[hst.out,hm,h1];rfl);rw[hm];clear hm;go_wp2;go_roundw
    case rel=>exact⟨k+1,by rw[hst.out];go_num,by go_num,hlt,trivial⟩
    case measure=>simp[intOf];omega
   have e1:(((b.toNat:Nat):Int)==43)=false:=by rw[beq_eq_false_iff_ne];intro h;exact h1 (UInt8.toNat_inj.1 (show b.toNat=43 by omega))
   by_cases h2:b=35
   ·have e2:(((b.toNat:Nat):Int)==35)=true:=by rw[h2];rfl
    have hst:=hid (show signsR (s.take (k+1))=m+1 by rw[hst.out,hm,h2];rfl);rw[hm];clear hm;go_wp2;go_roundw
    case rel=>exact⟨k+1,by rw[hst.out];go_num,by go_num,hlt,trivial⟩
    case measure=>simp[intOf];omega
   have e2:(((b.toNat:Nat):Int)==35)=false:=by rw[beq_eq_false_iff_ne];intro h;exact h2 (UInt8.toNat_inj.1 (show b.toNat=35 by omega))
   have hst:=hid (show signsR (s.take (k+1))=m by rw[hst.out,hm];simp[h1,h2]);rw[hm];clear hm;go_wp2;go_roundw
   case rel=>exact⟨k+1,by rw[hst.out],by go_num,hlt,trivial⟩
   case measure=>simp[intOf];omega
  obtain rfl:k=s.length:=by omega
  have dk:decide ((s.length:Int)<(s.length:Int))=false:=by simp
  go_wp2;go_ret;exact⟨by simp,rfl⟩
theorem r13_Name2(s:List UInt8)(w:World)(hs:s.length<=2000000):
  Calls prog 115 #[.string ⟨s.toArray⟩] w fun e w'=>e=.returned (.bool (nameR s))/\Below w.heap.size w w':=by
 have fin:∀b:Bool,nameR s=b->Ending.returned (.bool b)=.returned (.bool (nameR s)):=fun b h=>by rw[h]
 have HF:=hid fin;clear fin;have CS:=hid (r13_said2 s w hs);have CG:=hid fun w=>r13_signs s w hs;have HN:=hid (show nameR s=(saidR s&&decide (signsR s=0)) by rw[signs_any];rfl);cases hq:saidR s
 ·rw[hq]at CS HN;clear hq;go_enter func115,ntmps115;go_wp2_with (go_at_call 180;refine CS.mono ?_;rintro e w1 ⟨rfl,hb⟩)
  go_ret;exact⟨HF _ HN.out,hb⟩
 rw[hq]at CS HN;clear hq;have HM:=hid (show nameR s=decide (signsR s=0) by rw[HN.out];rfl);obtain⟨m,hm⟩:=gen_of (signsR s:Nat);rw[hm]at CG HM;clear hm;go_enter func115,ntmps115;go_wp2_with (first | (go_at_call 180;refine CS.mono ?_;rintro e w1 ⟨rfl,hb⟩) | (go_at_call 181;refine(CG _).mono ?_;rintro e w2 ⟨rfl,rfl⟩))
 go_ret;refine⟨HF _ ?_,hb⟩;rw[HM.out];by_cases h:m=0<;>simp[h]
structure WillV where
 topic:List UInt8
 body:List UInt8
 qos:Int
 retain:Bool
def WillV.vals(v:WillV):Array Value:=#[.string ⟨v.topic.toArray⟩,.string ⟨v.body.toArray⟩,.int .i64 v.qos,.bool v.retain]
def noWill:WillV:=⟨[],[],0,false⟩
structure XS where
 most:Int
 subs:Int
 o:OS
 ids:List Nat
 wants:WL
 clean:Bool
 on:Bool
 keep:Int
 heard:Int
 will:Option WillV
structure XLay where
 p:Nat
 o:Lay
 ib:Nat
 sb:Nat
 m:Nat
 wv:Option Nat
 W:Nat->Nat
def XLay.own(S:XLay):List Nat:=S.p::S.ib::S.sb::S.m::S.wv.toList
def XLay.foot(S:XLay):List Nat:=S.own++S.o.foot
def ptrO(b:Option Nat):Value:=.pointer (b.map fun b=>⟨b,0,none⟩)
def XLay.cells(S:XLay)(x:XS):Array Value:=#[.pointer (some ⟨S.o.p,0,none⟩),.int .i64 x.o.window,.int .i64 x.o.room,.int .i64 x.most,.int .i64 x.subs,.pointer (some ⟨S.ib,0,none⟩),.map (some S.m),.bool x.clean,.bool x.on,.int .i64 x.keep,.int .i64 x.heard,ptrO S.wv]
def WillAt(w:World):Option Nat->Option WillV->Prop
 | none,none=>True
 | some b,some v=>Blk w b v.vals 47
 | _,_=>False
theorem WillAt.keep{w w':World}{b:Option Nat}{v:Option WillV}(h:WillAt w b v)(hk:∀x∈b.toList,w'.heap[x]?=w.heap[x]?):WillAt w' b v:=by cases b<;>cases v<;>simp only[WillAt]at h ⊢;exact Blk.keep h (hk _ (by simp))
theorem WillAt.lt{w:World}{b:Option Nat}{v:Option WillV}(h:WillAt w b v):∀x∈b.toList,x<w.heap.size:=by cases b<;>cases v<;>simp only[WillAt]at h<;>simp;exact Blk.lt h
structure XS.OK (x:XS):Prop where
 most:1<=x.most/\x.most<=1000
 subs:1<=x.subs/\x.subs<=100
 ids:∀i∈x.ids,1<=i/\i<=65535
 under:(x.ids.length:Int)<=x.most
 wants:(x.wants.length:Int)<=x.subs
 keep:0<=x.keep/\x.keep<=65535
structure XB (w:World)(B:Nat)(S:XLay)(x:XS):Prop where
 box:Blk w S.p (S.cells x) 276
 ob:OB w B S.o x.o [] []
 nil:S.o.vp=.slice none 0 0/\S.o.vc=.slice none 0 0
 inb:Inb w S.ib S.sb x.most S.W
 set:SetIs S.W x.ids
 wm:WM w S.m x.wants
 will:WillAt w S.wv x.will
 apart:∀b∈S.own,b∉S.o.foot
 nodup:S.own.Nodup
 gg:1∉S.own
 ok:x.OK
theorem XB.lt{w:World}{B:Nat}{S:XLay}{x:XS}(h:XB w B S x):∀b∈S.foot,b<w.heap.size:=by
 intro b hb;simp only[XLay.foot,XLay.own,List.cons_append,List.mem_cons,List.mem_append]at hb;rcases hb with rfl | rfl | rfl | rfl | hb | hb
 ·exact h.box.lt
 ·exact h.inb.box.lt
 ·exact h.inb.set.lt
 ·exact h.wm.lt
 ·exact h.will.lt b hb
 exact h.ob.lt b hb
theorem XB.out{w w':World}{B:Nat}{S:XLay}{x:XS}(h:XB w B S x){M:List Nat}(hw:Wrote M w w')(hM:∀b∈M,b∉S.foot)(hg:1∉M):XB w' B S x:=by have k:∀b∈S.own,w'.heap[b]?=w.heap[b]?:=fun b hb=>hw.block b (h.lt b (List.mem_append_left _ hb)) (fun hm=>hM b hm (List.mem_append_left _ hb));refine⟨h.box.keep (k _ (by simp[XLay.own])),h.ob.out hw (fun b hb hf=>hM b hb (List.mem_append_right _ hf)) hg,h.nil,⟨h.inb.box.keep (k _ (by simp[XLay.own])),h.inb.set.keep (k _ (by simp[XLay.own]))⟩,h.set,h.wm.keep (k _ (by simp[XLay.own])),h.will.keep (fun b hb=>k b ?_),h.apart,h.nodup,h.gg,h.ok⟩;simp only[XLay.own,List.mem_cons];exact .inr (.inr (.inr (.inr hb)))
theorem XB.below{w w':World}{B:Nat}{S:XLay}{x:XS}(h:XB w B S x)(hb:Below w.heap.size w w'):XB w' B S x:=h.out (Wrote.of_below (M:=[]) hb) (by simp) (by simp)
section
section
variable {P:Program} {w:World}
theorem take_set_drop(cur:Array Value)(j:Nat)(v:Value)(hj:j<cur.size):(cur.toList.take j++[v]++cur.toList.drop (j+1)).toArray=cur.setIfInBounds j v:=by obtain⟨l⟩:=cur;simp only[List.size_toArray]at hj;simp only[List.setIfInBounds_toArray];congr 1;rw[List.set_eq_take_append_cons_drop,if_pos hj];simp
theorem run_store_cell(t T:TypeId)(hs:∀w,(sizeOf t).run P w=.ok 1 w){b j:Nat}{cur:Array Value}{v:Value}(hb:Blk w b cur T)(hj:j<cur.size)(hv:v.cells=#[v])(h1:v.oneCell'=true):
  (Instr.storeAt t (.pointer (some ⟨b,j,none⟩)) v).run P w=.ok () (w.setRow b (cur.setIfInBounds j v)):=by
 have hr:=run_storeCells_at P b j T [v] 0 cur w hb (by simp;omega) (by simpa using h1);simp only[Nat.add_zero,List.length_singleton]at hr;rw[take_set_drop cur j v hj]at hr;simp[Instr.storeAt,Instr.sureAddr,storeVar,hs,hv,hr]
theorem wp_store_cell{o:Oper}{a:Act}{K:Act->World->Prop}{Q:Exit->Act->World->Prop}(t T:TypeId)(x y:Operand)(ho:o.op=.store t x y)(hs:∀w,(sizeOf t).run P w=.ok 1 w)(b j:Nat)(cur:Array Value)(v:Value)
  (hx:a.eval x=.pointer (some ⟨b,j,none⟩)) (hy:a.eval y=v) (hb:Blk w b cur T) (hj:j<cur.size) (hv:v.cells=#[v]) (h1:v.oneCell'=true)
  (h:∀w',Blk w' b (cur.setIfInBounds j v) T->Wrote [b] w w'->K (a.put o.dst undef) w'):o.wp P a w K Q:=by
 have hr:=run_store_cell (P:=P) t T hs hb hj hv h1;unfold Oper.wp execOp;simp only[ho,hx,hy,Sem.run_bind,hr,Result.andThen_ok,Sem.run_pure];simp only[Oper.upon];exact h _ (setRow_heap w b cur _ T (0,0) hb) (setRow_wrote b _)
theorem wpList_store_cell{ops:Array Oper}{rest:List Oper}{op:Oper}{a:Act}{Q:Exit->Act->World->Prop}(hgd:op.guard=none)(t T:TypeId)(x y:Operand)(ho:op.op=.store t x y)(hs:∀w,(sizeOf t).run P w=.ok 1 w)(b j:Nat)(cur:Array Value)(v:Value)
  (hx:a.eval x=.pointer (some ⟨b,j,none⟩)) (hy:a.eval y=v) (hb:Blk w b cur T) (hj:j<cur.size) (hv:v.cells=#[v]) (h1:v.oneCell'=true)
  (h:∀w',Blk w' b (cur.setIfInBounds j v) T->Wrote [b] w w'->wpList P ops Q rest (a.put op.dst undef) w'):wpList P ops Q (op::rest) a w:=
 wpList_plain hgd fun _ hK=>wp_store_cell t T x y ho hs b j cur v hx hy hb hj hv h1 fun w' hb' hw'=>hK _ _ (h w' hb' hw')
end
theorem Wrote.andNew{M N:List Nat}{a b c:World}(h:Wrote M a b)(k:Wrote N b c)(hN:∀x∈N,a.heap.size<=x):Wrote M a c:=
 ⟨k.os.trans h.os,k.tape.trans h.tape,k.output.trans h.output,Nat.le_trans h.size k.size,fun i hi hm=>(k.block i (Nat.lt_of_lt_of_le hi h.size) (fun hx=>by have:=hN i hx;omega)).trans (h.block i hi hm)⟩
theorem results_ct1{P:Program}{w:World}{fn:Func}{a b:Tmp}{t:TypeId}(h:fn.results=#[.cell a t,.tmp b]){tmps:Array Value}{p:Addr}(hp:tmps.getD a undef=.pointer (some p)){v x:Value}(hl:(loadVar t p).run P w=.ok v w)(hx:tmps.getD b undef=x):(results fn tmps).run P w=.ok (.tuple #[v,x]) w:=by rw[Array.getD_eq_getD_getElem?]at hp hx;simp[results,h,hp,hx,asAddr,hl]
end
end Go.Proofs.YtkghejaimhoboaaGreatDoor
