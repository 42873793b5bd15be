/- Plain lemmas and contracts; the conditions are in each. -/
import Derived.JoinedOf
import Derived.Test.YtdfppjcaelghhaaGreatDoorAl
import Derived.Test.YtdfppjcaelghhaaGreatDoorRows
set_option maxRecDepth 100000
namespace Go.Proofs.YtdfppjcaelghhaaGreatDoor
open Go
def blank:Char:=Char.ofNat 32
theorem Fp (r:List Char):wordsSigns (blank::r)=[]::wordsSigns r:=rfl
theorem Fq (c:Char)(r:List Char)(h:c≠blank):wordsSigns (c::r)=(match wordsSigns r with | w::ws=>(c::w)::ws | []=>[[c]]):=by
 conv=>lhs;unfold wordsSigns
 split
 ·rename_i e;cases e
 ·rename_i e;injection e with e;exact absurd e h
 ·rename_i e;injection e with y z;subst y;subst z;rfl
theorem r9:∀(a r:List Char),(∀c∈a,c≠blank)->wordsSigns (a++blank::r)=a::wordsSigns r
 | [],r,_=>Fp r
 | c::a,r,h=>by
   rw[List.cons_append,Fq c _ (h c (by simp)),r9 a r (fun d hd=>h d (by simp[hd]))]
theorem E9 {s:List Char}(h:isSumSigns s=true):∀c∈s,c≠blank:=by
 unfold isSumSigns at h;simp only[Yg,Xx]at h;rintro c y rfl;have:=h.2 _ y
 revert this
 decide
theorem Jc {P:Program}{s r:List Char}(h:P.initOrder.toList= "harness".toList++blank::(s++blank::("cut".toList++blank::r)))(y:isSumSigns s=true) :
 behindMainWord (wordsSigns P.initOrder.toList)= "cut".toList::wordsSigns r:=by
 rw[h,r9 _ _ (by decide),r9 _ _ (E9 y),r9 _ _ (by decide)];have e:("harness".toList== "harness".toList)=true:=by decide
 simp only[behindMainWord,e,y,zbd,Bool.and_self,if_true]
theorem Cz (ws:List (List Char)):stripLifts liftWords ("cut".toList::ws)=([], "cut".toList::ws):=rfl
theorem L0 {P:Program}{ws:List (List Char)}(h:behindMainWord (wordsSigns P.initOrder.toList)= "cut".toList::ws):P.make=some .cut:=by
 unfold Program.make;rw[h];rfl
theorem Bl {P:Program}{ws:List (List Char)}(h:behindMainWord (wordsSigns P.initOrder.toList)= "cut".toList::ws):P.headLifts=[]:=by
 unfold Program.headLifts;rw[h,Cz];rfl
theorem zR {P:Program}{ws:List (List Char)}(h:behindMainWord (wordsSigns P.initOrder.toList)= "cut".toList::ws):P.liftsFinal=false:=by
 unfold Program.liftsFinal;rw[Bl h,h];rfl
theorem C6 {P:Program}{ws:List (List Char)}(h:behindMainWord (wordsSigns P.initOrder.toList)= "cut".toList::ws)(y:P.laysLater=false)(z:P.bearsReflect=false)(B:P.doorFits []=true):P.mayEnter=true:=by
 unfold Program.mayEnter;rw[h];simp only[Cz,y,z,B];rfl
theorem MY {s:String}{l:List Char}(h:s=String.ofList l):s.toList=l:=by rw[h];exact String.toList_ofList
theorem Ll (l:List Char)(h:l= "harness".toList++blank::((l.drop 8).take 64++blank::("cut".toList++blank::l.drop 77)))(z:isSumSigns ((l.drop 8).take 64)=true){P:Program}(y:P.initOrder.toList=l) :
 behindMainWord (wordsSigns P.initOrder.toList)= "cut".toList::wordsSigns (l.drop 77):=Jc (y.trans h) z
theorem uJ:∃ws,behindMainWord (wordsSigns Tryz.prog.initOrder.toList)= "cut".toList::ws :=
 ⟨_,Ll _ kRf kRf (MY (s:=Tryz.prog.initOrder) rfl)⟩
theorem Kz:(Tryz.prog.make==some Make.cut)=true:=by obtain⟨ws,h⟩:=uJ;rw[L0 h];rfl
theorem G0:Tryz.prog.liftsFinal=false:=by obtain⟨ws,h⟩:=uJ;exact zR h
theorem GZ:Tryz.prog.laysLater=false:=kRf
theorem Dj:Tryz.prog.bearsReflect=false:=kRf
theorem Kx:Tryz.prog.doorFits []=true:=kRf
theorem GX:Tryz.prog.mayEnter=true:=by obtain⟨ws,h⟩:=uJ;exact C6 h GZ Dj Kx
theorem Mg:ownKnob Tryz.prog.godebug=none:=kRf
theorem zO:laidOutB Tryz.prog=true:=kRf
theorem KA:mapsRowed Tryz.prog=true:=kRf
theorem Ky:Tryz.prog.plainKeys=true:=kRf
theorem G3:(Tryz.prog.stops==[])=true:=kRf
theorem Av:(Tryz.prog.stopKnobs==[])=true:=kRf
theorem GY:Tryz.prog.stopsHeard=true:=kRf
theorem Lp {f:FuncId}{y:Func}{s:ChangeSpec}{c:OpenClaim}(k1:c.wf (OpenSpec.ofChange s)=true)(k4:y.params.all (Tryz.prog.readableRec ·)=true)(k5:namedTie Tryz.prog c.named s.vars=true)
 (k6:(c.stops==[])=true) (k8:(c.knobs==[])=true) (I:(c.inPlace==Tryz.prog.inPlace f)=true) (J:(c.unfollowed==Tryz.prog.unfollowed f)=true) (K:(c.recurses==Tryz.prog.recurses f)=true) (M:(c.named==Tryz.prog.varsNamed f)=true)
 (O:(c.maps==(y.params.toList++s.plain.varTypes Tryz.prog).any (Tryz.prog.mapsRec ·))=true) (U:(c.ifaces==(y.params.toList++s.plain.varTypes Tryz.prog).any (Tryz.prog.ifacesRec ·))=true) (V:(c.mapsOut==Tryz.prog.mapsAmong y.resultTypes.toList)=true)
 (Y:(c.loops==(y.params.toList++s.plain.varTypes Tryz.prog).any (Tryz.prog.loopsFrom ·))=true) (z:(c.wideKeys==(y.params.toList++s.plain.varTypes Tryz.prog++y.resultTypes.toList).any (Tryz.prog.wideKeysFrom ·))=true)
 (Z:s.vars.all (Tryz.prog.varReadable ·)=true) (aa:y.resultTypes.all (fun t=>Tryz.prog.readableRec t&&decide (t<Tryz.prog.types.size))=true) (ae:(c.ifacesOut==y.resultTypes.toList.any (Tryz.prog.ifacesRec ·))=true) (af:(c.loopsOut==y.resultTypes.toList.any (Tryz.prog.loopsFrom ·))=true)
 (ag:c.plainKeys=true) (ah:c.shortTexts.isNone=true) (B:c.lifted=false) (E:c.make=.cut)
 (ai:(c.kinds==(if c.domain.isEmpty then []else y.params.toList.map fun t=>match Tryz.prog.underlying t with | some (.int k)=>some k | _=>none))=true) (aj:(c.pinned==c.pinnedBy)=true)
 (ak:(c.veiled==(y.params.toList++s.plain.varTypes Tryz.prog++y.resultTypes.toList).any (Tryz.prog.veiledRec ·))=true) (au:c.veiledFits Tryz.prog y.params.toList (y.params.toList++s.plain.varTypes Tryz.prog++y.resultTypes.toList)=true) :
 joinedFacts Tryz.prog f y s c=true:=by
 have e1:(c.plainKeys==Tryz.prog.plainKeys)=true:=by rw[ag,Ky];rfl
 have e2:(c.lifted==Tryz.prog.liftsFinal)=true:=by rw[B,G0];rfl
 have e3:(Tryz.prog.make==some c.make)=true:=by rw[E];exact Kz
 unfold joinedFacts;simp only[Yg];exact⟨⟨⟨⟨⟨⟨⟨⟨⟨⟨⟨⟨⟨⟨⟨⟨⟨⟨⟨⟨⟨⟨⟨⟨⟨⟨⟨⟨⟨⟨⟨k1,zO⟩,KA⟩,k4⟩,k5⟩,k6⟩,G3⟩,k8⟩,Av⟩,I⟩,J⟩,K⟩,M⟩,O⟩,U⟩,V⟩,Y⟩,z⟩,Z⟩,aa⟩,ae⟩,af⟩,e1⟩,ah⟩,GY⟩,GX⟩,e2⟩,e3⟩,ai⟩,aj⟩,ak⟩,au⟩
end Go.Proofs.YtdfppjcaelghhaaGreatDoor
