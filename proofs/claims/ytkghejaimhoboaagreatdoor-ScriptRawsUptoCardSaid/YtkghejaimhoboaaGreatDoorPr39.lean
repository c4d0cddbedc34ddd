/- Parts of the proof of ScriptRaws. -/
import Derived.Test.YtkghejaimhoboaaGreatDoorPr36
import Derived.Test.YtkghejaimhoboaaGreatDoorPr28
import Derived.Test.YtkghejaimhoboaaGreatDoorPr25
set_option linter.unusedSimpArgs false
set_option linter.unusedVariables false
set_option maxRecDepth 100000
set_option maxHeartbeats 8000000
namespace Go.Proofs.YtkghejaimhoboaaGreatDoor
open Go.RowKit Go.Shelf Go.Proofs.Tryz
theorem kind_pk(x:TnC)(h:x.t.kind=2->PkS x.t.pk):KindDo x:=kindDo_of x fun h2=>pk_Check x.t.pk x.h (h h2) ⟨(h h2).wants,(h h2).filters⟩
theorem write_pk(x:TnC)(w:World)(hx:x.t.In w x.h x.hp)(hr:rightT x.t):WriteDo pkC w x:=writeDo_of pkC w x hx hr fun h2 W hin hrp=>pk_Raw x.t.pk x.h (rightP_small hrp) ⟨(rightP_small hrp).wants,(rightP_small hrp).filters⟩ W hin hrp
theorem read_pk(k:Int):ReadDo pkC k:=readDo_of pkC parsePk_ok k
theorem sc_RawPk(s:ScC)(w:World)(hs:s.In w)(hT:TzAt w)(hp:∀x∈s.ts,x.t.kind=2->PkS x.t.pk):Calls prog 11 #[.agg s.cells.toArray] w (RawA pkC s.sc w):=
 sc_Raw pkC s w hs hT (new_ok s.cf) (fun x hx=>kind_pk x (hp x hx)) (fun hr x hx=>write_pk x w (hs.each x hx) (hr.2.2.2 x.t (List.mem_map_of_mem hx)))
theorem sc_ParsePk(a:Option Addr)(n c:Nat)(l:List UInt8)(w:World)(hrow:RowAt w a n c (bs l))(hn:n<=70368744177664)(hT:TzAt w):Calls prog 8 #[.slice a n c] w (ParA pkC l w):=
 sc_Parse pkC a n c l w hrow hn hT (fun s _=>new_ok s.cf) (fun s hs x hx=>kind_pk x fun h2=>rightP_small (rScript_pk hs x.t hx h2)) (fun _ k=>read_pk k)
end Go.Proofs.YtkghejaimhoboaaGreatDoor
