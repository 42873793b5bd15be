/- Plain lemmas and contracts; the conditions are in each. -/
import Derived.BigQuiet
import Derived.Deep.QuietTactic
import Derived.Deep.RegionHeld3
import Derived.Laws.BytesArg
import Derived.Laws.IdiomStrings
import Derived.Laws.MakeOwn
import Derived.Lib.SmallJoins
import Derived.OpenShut
import Derived.ProofKit
import Derived.SizedLaws
import Derived.Test.YtdfppjcaelghhaaGreatDoorDiskG
import Derived.Test.YtdfppjcaelghhaaGreatDoorFacts
import Derived.Test.YtdfppjcaelghhaaGreatDoorIter
set_option maxHeartbeats 4000000
set_option maxRecDepth 100000
namespace Go.Proofs.YtdfppjcaelghhaaGreatDoor
open Go.RowKit Go.Sl Go.Maps
attribute [local go_sem] ab bh bd
def e8 (D:aq):List (List UInt8):=(D.now.map (·.1.data.toList)).mergeSort leB
theorem tT (D:aq):(e8 D).length=D.now.length:=by unfold e8;rw[List.length_mergeSort,ZW]
theorem nJ {s:ByteArray}(h:eo s=true):s.size<=16:=by
 unfold eo at h;simp only[Yg,decide_eq_true_eq]at h;exact h.1.2
theorem tz (p:Nat)(D:aq)(w w0:World)(S F:ba)(m:Mod w w0 S)(t:eM S (bv p) D F) :
 Calls Tryz.prog 50 #[.pointer (some ⟨p,0,none⟩)] w fun e Y=>∃B c,e=.returned (.slice B (e8 D).length c)/\Mod Y w0 (ar 9 1 (.slice B (e8 D).length c) (e8 D).length ((e8 D).map encStr)*S):=by
 obtain⟨rn,rs,J,m1⟩:=ie m t;have M:(0:Int)<D.size:=by have:=J.pos;omega
 have ae:(js D.now).length<=64:=by rw[js,tU];exact J.many
 obtain⟨D0,K,y,z⟩:=Kh (P:=Tryz.prog) (k:=9) (r:=rn) (L:=js D.now) m1 zbk kRf (fun q hq=>by
  obtain⟨q0,aa,rfl⟩:=Zz.1 hq;have:=nJ (J.named q0 aa);show q0.1.size<=maxLen
  unfold maxLen;omega) (by unfold maxLen;omega)
 have I:=zbj y;clear y;go_enter Tryz.func50,Tryz.ntmps50
 go_wp2_with first
  | (go_at_call 93;refine(rW p D.size _ _ _ w0 _ M).mono ?_;rintro e Y ⟨rfl,rfl⟩)
  | (go_at_call 99;refine(callsIn_wide.1 (Tryz.maps_Keys_99 _ _)).mono ?_;rintro e Y ⟨rfl,rfl⟩)
  | (go_at_call 98;refine(callsIn_wide.1 (Tryz.slices_Sorted_keys_98_99 rn _ D0 _ w K (by rw[z];unfold maxLen;omega) (by rw[z];omega))).mono ?_;rintro e Y ⟨v,V,rfl,hS,O,af,hb⟩)
 go_ret
 have hp:V.Perm (D.now.map (·.1.data.toList)):=by
  refine(hS.trans I.out).trans ?_;rw[js,ly,Yw];exact X9 _
 have E:V.mergeSort leB=e8 D:=mergeSort_of_perm hp;have hl:V.length=(e8 D).length:=by rw[<-E,List.length_mergeSort]
 have ma:Mod (w.alloc (.cells #[.map (some rn)] 89)) w0 (aE w.heap.size (.cells #[.map (some rn)] 89)*S):=Mod.alloc (m:=m) (hn:=⟨rfl⟩) _;have U:=(Mod.Mq (Mod.drop (m:=ma)) rfl hb O)
 have hv:∃B c,v=.slice B V.length c:=by
  rcases (fW U).2 with⟨Z,h2⟩ | ⟨g,cap,ag,Z,_⟩
  ·exact⟨none,0,by rw[Z,h2]⟩
  ·exact⟨_,_,Z⟩
 obtain⟨B,c,rfl⟩:=hv;rw[hl]at U ⊢;rw[E]at U;exact⟨B,c,rfl,U⟩
open Go.RowKit Go.Sl
def kept (keep:Nat)(f:dr):dr:=⟨f.bytes.take (f.sure+min keep (f.bytes.length-f.sure)),f.sure+min keep (f.bytes.length-f.sure)⟩
def fG (D:aq)(keep:Nat)(g:Nat):dr:=match cw D.files g with | some f=>kept keep f | none=>⟨[],0⟩
abbrev gu:=List (ByteArray×Nat×dr)
def gu.dir (M:gu):qP:=(M.map fun q=>(q.1,q.2.1)).reverse
def gu.tab (M:gu):ep:=M.map (·.2)
theorem P6 (B:Option Addr)(n c len:Nat)(l:List UInt8)(w w0:World)(S:ba)(m:Mod w w0 S) [r:bk S B len (b7 l)](h:n<=len)(E:len<=1048576) :
 Calls Tryz.prog 45 #[.slice B n c] w fun e z=>∃A' c',e=.returned (.slice A' n c')/\Mod z w0 (ar 5 1 (.slice A' n c') n (b7 (l.take n))*S):=by
 have y:=bk.pre r n h;have e:(b7 l).take n=b7 (l.take n):=by simp[b7]
 rw[e]at y;exact sy _ n c _ w w0 S m y (io _) oMg
def gX (T:ep):ba:=fx T
theorem PZ (g:Nat)(f:dr)(T:ep):gX ((g,f)::T)=Ip g f*gX T:=rfl
theorem iC {α:Type}:∀(l:List α)(i:Nat)(h:i<l.length),(l[i]::l.eraseIdx i).Perm l
 | [],_,h=>by simp at h
 | _::_,0,_=>X9 _
 | a::l,i+1,h=>(List.Perm.swap a (l[i]'(by simpa using h)) _).trans ((iC l i (by simpa using h)).cons a)
theorem Qk {l left done:qP}{i:Nat}(z:i<left.length)(h:(done++left).Perm l):(((left[i].1,left[i].2)::done)++left.eraseIdx i).Perm l:=by
 refine List.Perm.trans ?_ h;have y:(left[i]::left.eraseIdx i).Perm left:=iC left i z;exact(zao.symm).trans (y.append_left done)
theorem C7 {α:Type}{L:List (ByteArray×α)}{s:ByteArray}(h:s ∉ L.map (·.1)):br L s=none:=by
 unfold br
 have y:L.find? (fun p=>decide (p.1=s))=none:=Y9.2 fun p hp=>by
  simp only[decide_eq_true_eq];exact fun e=>h (by rw[<-e];exact ZC hp)
 rw[y];rfl
theorem iH (M:gu):M.dir.map (·.1)=(M.map (·.1)).reverse:=by unfold gu.dir;rw[List.map_reverse,Yw];rfl
theorem Qg {l left done:qP}{D:aq}{keep:Nat}{M:gu}{i:Nat}(z:i<left.length)(h:(done++left).Perm l)(B:M.map (fun q=>(q.1,q.2.2))=done.map fun q=>(q.1,fG D keep q.2))(hn:(l.map (·.1)).Nodup):br M.dir left[i].1=none:=by
 apply C7;rw[iH,yV]
 have e:M.map (·.1)=done.map (·.1):=by
  have:=congrArg (List.map Prod.fst) B;rw[Yw,Yw]at this;exact this
 rw[e];have y:((done++left).map (·.1)).Nodup:=(h.map _).nodup_iff.2 hn;rw[ZP,Yx]at y;intro E;exact y.2.2 _ E _ (ZC (Zq z)) rfl
theorem Qu (keep:Nat)(f:dr)(h:f.sure<=f.bytes.length):(f.sure:Int)+min (keep:Int) ((f.bytes.length:Int)-(f.sure:Int))=((kept keep f).sure:Int):=by
 show _=((f.sure+min keep (f.bytes.length-f.sure):Nat):Int);omega
theorem P5 (keep:Nat)(f:dr)(h:f.sure<=f.bytes.length):(kept keep f).sure<=f.bytes.length:=by
 show f.sure+min keep (f.bytes.length-f.sure)≤_;omega
theorem ik (keep:Nat)(f:dr):(kept keep f).bytes=f.bytes.take (kept keep f).sure:=rfl
instance eM.made (T:ep):eM (gX T) gX T sC:=⟨(eI _).symm⟩
theorem PW {w w0:World}{S F:ba}{T:ep}(m:Mod w w0 S)(t:eM S gX T F):cw T w.heap.size=none:=Gg (T:=T) (F:=F) m ⟨t.eq⟩
theorem Qf {w w0:World}{S z B y:ba}{g:Nat}{v:Value}{T:ep}{E:Int}{n:Nat}{xs:List Value}(m:Mod w w0 S) [O:eM S (aE g) (.cells #[.int .i64 E,v] 96 (0,0)) z] [U:eM z (Nd 5 1 v) (n,xs) B] [V:eM B gX T y]
 (f:dr) (I:E=(f.sure:Int)) (J:n=f.bytes.length) (K:xs=b7 f.bytes):Mod w w0 (gX ((g,f)::T)*y):=by
 subst I J K
 have e:S=(aE g (.cells #[.int .i64 (f.sure:Int),v] 96 (0,0))*ar 5 1 v f.bytes.length (b7 f.bytes))*(gX T*y):=by
  rw[O.eq,U.eq,V.eq,bo];rfl
 rw[e]at m;have M:=Mod.shut (G:=fun v:Value=>aE g (.cells #[.int .i64 (f.sure:Int),v] 96 (0,0))*ar 5 1 v f.bytes.length (b7 f.bytes)) v (m:=m);rw[PZ,bo];exact M
theorem iQ {w w0:World}{F:ba}{p rn rs:Nat}{E I J K M:ba}{O:Int}{z B:eR}{T:ep}(m:Mod w w0 E) [t1:eM E (aE p) (.cells #[.int .i64 O,.map (some rn),.map (some rs)] 91 (0,0)) I] [t2:eM I (gv rn) z J] [t3:eM J (gv rs) B K] [t4:eM K gX T M]
 (D:aq) (y:cJ D) (U:O=(D.size:Int)) (V:z=js D.now) (Y:B=js D.sure) (Z:T=D.files) (h5:M=F):Mod w w0 (bv p D*F) :=
 vm m (t4:=⟨t4.eq⟩) D y U V Y Z h5
theorem Bk:∀(T:ep)(g:Nat),cw T g=none->g ∉ T.map (·.1)
 | [],_,_=>by simp
 | p::l,g,h=>by
   unfold cw at h;by_cases hp:p.1=g
   ·rw[if_pos hp]at h;cases h
   ·rw[if_neg hp]at h
    simp only[Zy,Zu,not_or];exact⟨fun e=>hp e.symm,Bk l g h⟩
theorem iK:∀(T:ep)(g:Nat)(f:dr),(g,f)∈T->(cw T g).isSome=true
 | [],_,_,h=>by cases h
 | p::l,g,f,h=>by
   unfold cw;by_cases hp:p.1=g
   ·rw[if_pos hp];rfl
   ·rw[if_neg hp]
    rcases Zu.1 h with h | h
    ·exact absurd (by rw[<-h]) hp
    ·exact iK l g f h
theorem Qq (q:ByteArray×Nat×dr)(M:gu):gu.dir (q::M)=M.dir++[(q.1,q.2.1)]:=by simp[gu.dir]
theorem QE (M:gu):M.dir.map (·.2)=(M.map (·.2.1)).reverse:=by unfold gu.dir;rw[List.map_reverse,Yw];rfl
theorem Qr (keep:Nat)(f:dr)(h:f.sure<=f.bytes.length):(kept keep f).bytes.length=(kept keep f).sure:=by
 rw[ik,Zt];have:=P5 keep f h;omega
theorem Ps {D:aq}(I:cJ D){l:qP}{M:gu}{keep:Nat}(hl:l.length<=64)(ae:∀q∈l,(cw D.files q.2).isSome=true)(aa:(l.map (·.1)).Nodup)(af:∀q∈l,eo q.1=true)
 (hp:(M.map fun q=>(q.1,q.2.2)).Perm (l.map fun q=>(q.1,fG D keep q.2))) (hd:(M.map (·.2.1)).Nodup):cJ ⟨D.size,M.dir,M.dir,M.tab⟩:=by
 have V:∀x∈M,∃q∈l,∃f,cw D.files q.2=some f/\x.1=q.1/\x.2.2=kept keep f:=by
  intro x J;have h1:=hp.subset (ZC (f:=fun q:ByteArray×Nat×dr=>(q.1,q.2.2)) J);obtain⟨q,E,he⟩:=Zz.1 h1;obtain⟨f,Z⟩:=YQ.1 (ae q E);injection he with e1 e2;refine⟨q,E,f,Z,e1.symm,?_⟩;rw[<-e2];unfold fG;rw[Z]
 have O:M.dir.length<=64:=by
  have:=hp.length_eq;simp only[ZW]at this;simp[gu.dir,this,hl]
 have U:∀q∈M.dir,(cw M.tab q.2).isSome=true:=by
  intro q E;obtain⟨x,J,rfl⟩:=Zz.1 (yV.1 E);exact iK _ _ x.2.2 (ZC (f:=fun q:ByteArray×Nat×dr=>q.2) J)
 have B:(M.dir.map (·.1)).Nodup:=by
  rw[iH,(zbm _).nodup_iff];have Y:=hp.map Prod.fst;rw[Yw,Yw]at Y;exact(Y.nodup_iff).2 aa
 have K:(M.dir.map (·.2)).Nodup:=by rw[QE,(zbm _).nodup_iff];exact hd
 have z:∀q∈M.dir,eo q.1=true:=by
  intro q E;obtain⟨x,J,rfl⟩:=Zz.1 (yV.1 E);obtain⟨q,E,f,_,h1,_⟩:=V x J;show eo x.1=true;rw[h1];exact af q E
 refine⟨I.pos,I.most,O,U,U,fun x J=>?_,fun x J=>?_,B,B,K,K,z,z,O⟩
 ·obtain⟨y,hy,rfl⟩:=Zz.1 J
  obtain⟨q,E,f,Z,_,Y⟩:=V y hy;have h3:f.bytes.length<=1048576:=I.len _ (jo _ _ _ Z);rw[Y,ik,Zt];omega
 ·obtain⟨y,hy,rfl⟩:=Zz.1 J
  obtain⟨q,E,f,Z,_,Y⟩:=V y hy;have h3:f.sure<=f.bytes.length:=I.upto _ (jo _ _ _ Z);rw[Y,Qr keep f h3];exact Zm _
theorem PD (p rl ro rn rs:Nat)(b:Bool)(hb:(b=true/\rl=rn/\ro=rs)\/(b=false/\rl=rs/\ro=rn))(D:aq)(K:cJ D)(l o:qP)(hl:l.length<=64)(aj:∀q∈l,(cw D.files q.2).isSome=true)(V:(l.map (·.1)).Nodup)(aH:∀q∈l,eo q.1=true)(keep:Nat)(hk:keep<=9223372036854775807)(w w0:World)(F:ba)
 (m:Mod w w0 (gv rl (js l)*(aE p (.cells #[.int .i64 (D.size:Int),.map (some rn),.map (some rs)] 91 (0,0))*(gv ro (js o)*(fx D.files*F))))) :
 Calls Tryz.prog 18 #[.pointer (some ⟨p,0,none⟩),.int .i64 (keep:Int),.bool b] w fun e y=>∃p',e=.returned (.tuple #[ap p',.int .i64 0]) /\
  ∃M:gu,(M.map fun q=>(q.1,q.2.2)).Perm (l.map fun q=>(q.1,fG D keep q.2))/\(M.map (·.2.1)).Nodup /\
   Mod y w0 (bv p' ⟨D.size,M.dir,M.dir,M.tab⟩*(gv rl (js l)*(aE p (.cells #[.int .i64 (D.size:Int),.map (some rn),.map (some rs)] 91 (0,0))*(gv ro (js o)*(fx D.files*F))))):=by
 have ax:(0:Int)<D.size:=by have:=K.pos;omega
 obtain⟨q,hq⟩:∃q:Nat×Nat,q=(rn,rs):=⟨_,rfl⟩;have Y:=zbj hq;clear hq;rcases hb with⟨rfl,rfl,rfl⟩ | ⟨rfl,rfl,rfl⟩
 all_goals
  go_enter Tryz.func18,Tryz.ntmps18
  go_wp2_with (go_at_call 44;refine(Lb p D.size _ _ _ _ w0 _ ax 0 (by simp)).mono ?_;rintro e y ⟨rfl,_inst⟩)
  go_loopg [] l.length (fun gk wr=>∃(left done:qP)(M:gu)(ag:Option (ByteArray×Value)),Hid (gk=left.length)/\Hid ((done++left).Perm l)/\Hid (M.map (fun q=>(q.1,q.2.2))=done.map fun q=>(q.1,fG D keep q.2))/\Hid ((M.map (·.2.1)).Nodup)/\left.length<=64 /\
   Mod wr w0 (kQ (y.heap.size+1+1) rl (js l) (js left) ag*(aE (y.heap.size+1) (.cells #[.int .i64 (D.size:Int),.map (some y.heap.size),.map none] 91 (0,0))*(gv y.heap.size (js M.dir)*(gX M.tab *
    (aE p (.cells #[.int .i64 (D.size:Int),.map (some q.1),.map (some q.2)] 91 (0,0))*(gv ro (js o)*(fx D.files*F))))))))
  case atStart =>
   refine⟨l,[],[],none,rfl,X9 _,rfl,List.Pairwise.nil,hl,?_⟩
   exact Mod.to (S:=kQ (y.heap.size+1+1) rl (js l) (js l) none*(aE (y.heap.size+1) (.cells #[.int .i64 (D.size:Int),.map (some y.heap.size),.map none] 91 (0,0))*(gv y.heap.size []*(sC*(aE p (.cells #[.int .i64 (D.size:Int),.map (some q.1),.map (some q.2)] 91 (0,0))*(gv ro (js o)*(fx D.files*F)))))))
    rfl (m:=Mod.to (by rw[Y.out]))
  case round =>
   obtain⟨left,done,M,ag,Hk,Hp,Hm,Hd,aK,m2⟩:=hrel;have hq:=Y.out;clear Y;subst hq;simp only at m2;go_wp2_with (refine nS rfl (.tmp 38) rfl rfl m2 ?_ ?_)
   ·intro au w3 m3
    have aa:left=[]:=by simpa [js,ly]using au
    subst aa;have av:done.Perm l:=by have:=Hp.out;rwa [ZH]at this
    have m4:=zF m3;have ae:(M.map fun q=>(q.1,q.2.2)).Perm (l.map fun q=>(q.1,fG D keep q.2)):=by rw[Hm.out];exact av.map _
    have Hq:=zbj ae;have az:=zbj (Ps K hl aj V aH ae Hd.out);clear m2 m3 av ae au;go_wp2_with (go_at_call 46;refine(zV y.heap.size (js M.dir) _ w0 _ m4 zbk).mono ?_;rintro e J ⟨r',rfl,_m5⟩)
    go_ret2
    refine⟨y.heap.size+1,rfl,M,Hq.out,Hd.out,?_⟩;exact iQ (w:=J.setCell ⟨y.heap.size+1,2,none⟩ (.map (some r'))) (rn:=y.heap.size) (rs:=r') zbk ⟨D.size,M.dir,M.dir,M.tab⟩ az.out rfl rfl rfl rfl (by simp only[b9])
   ·intro i hi w2 m3
    have I:i<left.length:=by simpa [js,ly]using hi
    have e1:(js left)[i]=(left[i].1,ap left[i].2):=by simp[js,ly]
    have e2:(js left).eraseIdx i=js (left.eraseIdx i):=by simp[js,ly,dq]
    rw[e1,e2]at m3;rw[e1];have U:left[i]∈l:=Hp.out.subset (Ym _ (Zq I));obtain⟨f,hf⟩:=YQ.1 (aj left[i] U);obtain⟨B,c,m4⟩:=oT m3 zbk hf;have Z:f.bytes.length<=1048576:=K.len _ (jo _ _ _ hf);have z:f.sure<=f.bytes.length:=K.upto _ (jo _ _ _ hf);clear m2 m3;have Hf:=zbj hf;have aF:Hid ((((left[i].1,left[i].2)::done)++left.eraseIdx i).Perm l):=Qk I Hp.out;have aD:Hid (br M.dir left[i].1=none):=Qg I Hp.out Hm.out V;have aB:Hid (fG D keep left[i].2=kept keep f):=by show _=_;unfold fG;rw[hf]
    clear hf e1 e2 hi U;generalize left[i].2=g at *;generalize left[i].1=nm at *;go_wp2
    go_quiet (fail)
    rw[Qu keep f z];have ak:=P5 keep f z;have aI:f.bytes.length<=c:=Ng (e:=5) (A:=B) (n:=f.bytes.length) m4;have af:Hid ((kept keep f).bytes=f.bytes.take (kept keep f).sure):=ik keep f;generalize ah:kept keep f=E at *;have aJ:=zbj ah;clear ah;go_wp2
    have m5:Mod (w2.drewN nq) w0 _:=Mod.drewN (m:=m4) nq;generalize w2.drewN nq=w3 at *;clear m4;have aL:(0:Int)<=(E.sure:Int):=oMg
    have aM:(E.sure:Int)<=(c:Int):=oMg
    go_region_held3 (fun u=>u.cell? ⟨y.heap.size+1,1,none⟩=some (.map (some y.heap.size))/\u.cell? ⟨g,1,none⟩=some (.slice B f.bytes.length c)) (refine⟨?_,?_⟩ <;> (rw[ab];rfl))
     (first | (go_at_call 45;go_loud (refine(P6 B E.sure _ f.bytes.length f.bytes _ w0 _ (Mod.drew (m:=m5)) ak Z).mono ?_);rintro e J ⟨A',c',rfl,_m6⟩))
    have ai:cw M.tab J.heap.size=none:=PW _m6 zbk;have m7:=oU (w:=(J.alloc (.cells #[.int .i64 (E.sure:Int),.slice A' E.sure c'] 96)).oB y.heap.size nm (ap J.heap.size)) zbk Hf.out rfl f rfl rfl rfl;rw[qt _ _ _ Hf.out]at m7;have aG:E.bytes.length=E.sure:=by rw[af.out,Zt];omega
    have m8:=Qf (g:=J.heap.size) m7 E rfl aG.symm (by rw[af.out])
    have O:cV (js M.dir) nm (ap J.heap.size)=js (gu.dir ((nm,J.heap.size,E)::M)):=by
     rw[Qq,js,xR,ph aD.out];rfl
    rw[O]at m8;have ay:=zbj ai;clear ai m7 m5 _m6 O;go_wp2
    go_roundg (left.eraseIdx i).length
    case measure=>rw[Hk.out,XN I];omega
    case rel =>
     refine⟨left.eraseIdx i,(nm,g)::done,(nm,J.heap.size,E)::M,some (nm,ap g),rfl,aF.out,?_,?_,?_,?_⟩
     ·show (nm,E)::M.map (fun q=>(q.1,q.2.2))=(nm,fG D keep g)::done.map fun q=>(q.1,fG D keep q.2)
      rw[aB.out,Hm.out]
     ·show (J.heap.size::M.map (·.2.1)).Nodup
      refine Yq.2 ⟨?_,Hd.out⟩;have:=Bk _ _ ay.out;rw[gu.tab,Yw]at this;exact this
     ·rw[XN I];omega
     ·exact Mod.to (m:=m8) (by simp only[b9];ac_rfl)
def gz (D:aq)(b:Bool):qP:=if b then D.now else D.sure
theorem QG (p:Nat)(D:aq)(w w0:World)(S F:ba)(m:Mod w w0 S)(t:eM S (bv p) D F)(keep:Nat)(b:Bool)(O:keep<=9223372036854775807) :
 Calls Tryz.prog 18 #[.pointer (some ⟨p,0,none⟩),.int .i64 (keep:Int),.bool b] w fun e K=>∃z M,e=.returned (.tuple #[ap z,.int .i64 0]) /\
  (M.map fun q=>(q.1,q.2.2)).Perm ((gz D b).map fun q=>(q.1,fG D keep q.2))/\(M.map (·.2.1)).Nodup/\cJ ⟨D.size,gu.dir M,gu.dir M,gu.tab M⟩/\Mod K w0 (bv z ⟨D.size,M.dir,M.dir,M.tab⟩*S):=by
 obtain⟨rn,rs,y,U⟩:=ie m t;cases b
 ·have I:Mod w w0 (gv rs (js D.sure)*(aE p (.cells #[.int .i64 (D.size:Int),.map (some rn),.map (some rs)] 91 (0,0))*(gv rn (js D.now)*(fx D.files*F)))):=Mod.to (m:=U) (by ac_rfl)
  refine(PD p rs rn rn rs false (.inr ⟨rfl,rfl,rfl⟩) D y D.sure D.now y.IA y.sure y.Iv y.C9 keep O w w0 F I).mono ?_;rintro e K ⟨z,rfl,M,B,E,J⟩;refine⟨z,M,rfl,B,E,Ps y y.IA y.sure y.Iv y.C9 B E,?_⟩;rw[t.eq,cC];exact vm J D y rfl rfl rfl rfl (by simp only[b9])
 ·have I:Mod w w0 (gv rn (js D.now)*(aE p (.cells #[.int .i64 (D.size:Int),.map (some rn),.map (some rs)] 91 (0,0))*(gv rs (js D.sure)*(fx D.files*F)))):=Mod.to (m:=U) (by ac_rfl)
  refine(PD p rn rs rn rs true (.inl ⟨rfl,rfl,rfl⟩) D y D.now D.sure y.many y.now y.keys y.named keep O w w0 F I).mono ?_;rintro e K ⟨z,rfl,M,B,E,J⟩;refine⟨z,M,rfl,B,E,Ps y y.many y.now y.keys y.named B E,?_⟩;rw[t.eq,cC];exact vm J D y rfl rfl rfl rfl (by simp only[b9])
def OX (g:Nat)(s:ByteArray)(cap:Nat)(e:TypeId)(fr:Nat×Nat):ba:=aE g (.cells (bytesRow s cap) e fr)
instance (priority:=2000) OE {w w0:World}{S:ba}{n cap:Nat}{s:ByteArray}{e:TypeId}{fr:Nat×Nat} [hn:lY w n] [m:Mod w w0 S]:Mod (w.alloc (.cells (bytesRow s cap) e fr)) w0 (OX n s cap e fr*S):=Mod.alloc (m:=m) (hn:=hn) _
theorem td (s:ByteArray):s.data.toList.length=s.size:=by rw[Array.length_toList];rfl
instance bk.str (g:Nat)(s:ByteArray)(cap:Nat)(e:TypeId)(fr:Nat×Nat):bk (OX g s cap e fr) (some ⟨g,0,none⟩) s.size (b7 s.data.toList) :=
 ⟨fun _ _=>by rw[fg,td],fun h z _=>by
   refine⟨_,rfl,rfl,fun j u y=>⟨bytesRow s cap,e,fr,by rw[show h=Hp.one g (.cells (bytesRow s cap) e fr)from z];simp[Hp.one],?_⟩⟩
   have B:j<s.data.size:=by
    have:=(Yd.1 y).1;rw[fg,Array.length_toList]at this;exact this
   simp only[ZM];unfold bytesRow;rw[XL (by simpa using B)];simp only[b7,Yc,ZG]at y
   simpa using y⟩
theorem CS (w:World)(s:ByteArray):(convert 9 67 (.string s)).run Tryz.prog w=.ok (.slice (some ⟨w.heap.size,0,none⟩) s.size (grownCap w s.size 0 5))
 (w.drew.alloc (.cells (bytesRow s (grownCap w s.size 0 5)) 5 ((bytesRow s (grownCap w s.size 0 5)).size,(bytesRow s (grownCap w s.size 0 5)).size+1))) :=
 run_bytes_of_string w _ _ _ s kRf kRf kRf
theorem tu {w w0:World}{S:ba}{B:Option Addr}{n c:Nat}{l:List UInt8} [m:Mod w w0 S] [r:bk S B n (b7 l)]:(convert 67 9 (.slice B n c)).run Tryz.prog w=.ok (.string ⟨l.toArray⟩) w:=by
 have y:=fp m r;rw[fg]at y
 cases B with
 | none =>
   have I:n=0:=by
    rcases YD n with h | h
    ·exact h
    ·obtain⟨ad,z,_⟩:=cP m r h;cases z
   subst I;have M:l=[]:=Zo y;subst M;exact run_convert_bytes_nil w 67 5 kRf kRf 0 c 9 kRf
 | some ad =>
   subst y;refine run_convert_bytes_back w 67 9 5 ad c l kRf kRf kRf fun j K=>?_;obtain⟨E,z,hs,J⟩:=cP m r oMg;injection z with z;subst z;rw[jl ad j hs];exact J j _ (by simp[b7,K])
theorem It:∃i,Tryz.prog.info? 5=some i/\i.zero=some (.int .u8 0)/\i.size=1/\i.bytes=1:=by
 have h:(Tryz.prog.info? 5).map (fun i=>(i.zero,i.size,i.bytes))=some (some (.int .u8 0),1,1):=kRf
 obtain⟨i,E,B⟩:=Xk.1 h;injection B with z y;injection y with y h3;exact⟨i,E,z,y,h3⟩
attribute [local go_sem] tu
theorem toList_inj {x y:ByteArray}(h:x.toList=y.toList):x=y:=by
 rw[ByteArray.toList_eq,ByteArray.toList_eq]at h;have z:x.data=y.data:=YY.1 h;cases x;cases y;exact congrArg _ z
abbrev pT (l:List ByteArray):List Value:=l.map Value.string
theorem px {w w0:World}{S:ba}{B:Option Addr}{n:Nat}{l:List ByteArray}(m:Mod w w0 S)(r:bk S B n (pT l))(hn:0<n) :
 ∃b o,B=some ⟨b,o,none⟩/\∀j (h:j<l.length),w.cell? ⟨b,o+j,none⟩=some (.string l[j]):=by
 obtain⟨ad,y,hs,z⟩:=cP m r hn;obtain⟨b,o,E⟩:=ad;simp only at hs;subst hs;exact⟨b,o,y,fun j h=>z j _ (by simp[pT,h])⟩
def AK:List ByteArray->Nat
 | []=>0
 | s::l=>s.size+AK l
theorem J7 (s:ByteArray):eo s=(!s.data.toList.isEmpty&&decide (s.size<=16)&&(Lib.trimS s.data.toList kS).isEmpty):=by
 unfold eo;rw[ByteArray.toList_eq,ByteArray.toList_eq]
theorem ce {F:ba}{g n:Nat}{cs:Array Value}{e:TypeId}{fr:Nat×Nat}{xs:List Value} [h:jq F g (.cells cs e fr)](B:cs.toList=xs)(hn:xs.length=n):bk F (some ⟨g,0,none⟩) n xs :=
 ⟨fun _ _=>hn,fun x z _=>⟨_,rfl,rfl,fun j u y=>⟨cs,e,fr,h.has x z,by rw[<-B]at y;simpa using y⟩⟩⟩
open Go.RowKit Go.Sl
attribute [local go_sem] ab bh bd tu
def one (n:Nat)(name:ByteArray)(g:Nat)(f:dr)(s:qP):aq:=⟨n,[(name,g)],s,[(g,f)]⟩
theorem Lq:∀(T:ep)(g:Nat)(f:dr),(T.map (·.1)).Nodup->(g,f)∈T->cw T g=some f
 | [],_,_,_,h=>by cases h
 | p::l,g,f,hn,h=>by
   simp only[Zy,Yq]at hn;unfold cw;rcases Zu.1 h with h | h
   ·rw[<-h,if_pos rfl]
   ·rw[if_neg (fun e=>hn.1 (by rw[e];exact ZC (f:=(·.1)) h))]
    exact Lq l g f hn.2 h
theorem Qt {α:Type}{L:List (ByteArray×α)}{s:ByteArray}{v:α}(hn:(L.map (·.1)).Nodup)(h:(s,v)∈L):br L s=some v:=by
 induction L with
 | nil=>cases h
 | cons p l z =>
   simp only[Zy,Yq]at hn;rcases Zu.1 h with h | h
   ·rw[<-h];simp[br]
   ·have y:p.1≠s:=fun e=>hn.1 (by rw[e];exact ZC (f:=(·.1)) h)
    have:=z hn.2 h;unfold br at this ⊢;rw[yL (by simpa using y)];exact this
structure jO (w0:World)(S:ba) where
 world:World
 mod:Mod world w0 S
instance Mod.held {w0:World}{S:ba}(s:jO w0 S):Mod s.world w0 S:=s.mod
theorem jO.some {w w0:World}{S:ba}(m:Mod w w0 S):Nonempty (jO w0 S):=⟨⟨w,m⟩⟩
theorem dy {P:Program}{I:Nat}{Q:Exit->Act->World->Prop}{a:Act}{w w0:World}{S:ba}{l:List Oper}(m:Mod w w0 S)(E:P.follows .mixedOrders=true)(B:Region.lexB .any l.toArray=true)
 (h:wpQuiet P l.toArray (fun y=>∃s:jO w0 S,y=s.world) (fun z=>∀y,(∃s:jO w0 S,y=s.world)->Q .normal z y) l a):(Code.region I l.toArray true).wp P Q a w :=
 wp_region_quiet (C:=fun y=>∃s:jO w0 S,y=s.world) E B ⟨⟨w.drew,Mod.drew (m:=m)⟩,rfl⟩ (by simpa using h)
theorem cW {P:Program}{f:FuncId}{args:Array Value}{w w0:World}{S:ba}{v:Value}(h:Calls P f args w fun e y=>e=.returned v/\Mod y w0 S):Calls P f args w fun e y=>e=.returned v/\∃s:jO w0 S,y=s.world :=
 h.mono fun _ y ⟨z,B⟩=>⟨z,⟨y,B⟩,rfl⟩
open Go.ChangeShapes Go.WideShapes Go.ChangeAt Go.RowKit
theorem uZ:Tryz.prog.cellsOf 9=1:=kRf
theorem QP {k:Int}(h:(Lit.int .u16 k).wf=true):∃n:Nat,k=n/\n<65536:=by
 have B:IntKind.u16.min<=k/\k<=IntKind.u16.max:=by simpa [Lit.wf]using h
 have y:IntKind.u16.min=0:=by decide
 have z:IntKind.u16.max=65535:=by decide
 rw[y,z]at B;exact⟨k.toNat,oMg,oMg⟩
open Go.RowKit Go.Sl
theorem rY (T:ep):∀(L M:qP),eh T (L++M)=eh T L+eh T M
 | [],_=>by simp[eh]
 | q::L,M=>by simp only[List.cons_append,eh];rw[rY T L M];omega
theorem CC (T:ep){L M:qP}(h:L.Sublist M):eh T L<=eh T M:=by
 induction h with
 | slnil=>exact Zm _
 | cons a _ y=>simp only[eh];omega
 | cons_cons a _ y=>simp only[eh];omega
theorem th (T:ep)(g:Nat)(f':dr):∀(L:qP),g ∉ L.map (·.2)->eh (iS T g f') L=eh T L
 | [],_=>rfl
 | q::L,h=>by
   simp only[Zy,Zu,not_or]at h;simp only[eh];rw[jX T g q.2 f' (fun e=>h.1 e.symm),th T g f' L h.2]
theorem uP (T:ep)(g:Nat)(f:dr):∀(L:qP),g ∉ L.map (·.2)->eh ((g,f)::T) L=eh T L
 | [],_=>rfl
 | q::L,h=>by
   simp only[Zy,Zu,not_or]at h;simp only[eh];rw[uP T g f L h.2,show cw ((g,f)::T) q.2=cw T q.2 from by simp only[cw];rw[if_neg h.1]]
theorem rZ (T:ep)(s:ByteArray)(g:Nat):∀{L:qP},(L.map (·.1)).Nodup->br L s=some g->eh T (cG L s)+((cw T g).map (·.bytes.length)).getD 0=eh T L
 | [],_,h=>by cases h
 | q::L,hk,h=>by
   simp only[Zy,Yq]at hk;by_cases y:q.1=s
   ·have e:cG L s=L:=by
     unfold cG;refine ZR.2 fun p hp=>?_;have:p.1≠s:=fun e=>hk.1 (by rw[y,<-e];exact ZC (f:=(·.1)) hp);simp[this]
    have z:cG (q::L) s=L:=by
     unfold cG at e ⊢;rw[ZQ (by simp[y]),e]
    have B:q.2=g:=by
     unfold br at h;rw[List.find?_cons_of_pos (by simp[y])]at h;injection h
    rw[z];simp only[eh];rw[B];omega
   ·have h':br L s=some g:=by
     unfold br at h ⊢;rw[yL (by simp[y])]at h;exact h
    have:=rZ T s g hk.2 h';have z:cG (q::L) s=q::cG L s:=by unfold cG;rw[ZZ (by simp[y])]
    rw[z];simp only[eh];omega
def Po (D:aq):Nat:=eh D.files D.now
open Go.RowKit Go.Sl Go.Maps
theorem mG {w w0:World}{A X R:ba}(m:Mod w w0 (A*(X*R))):Mod w w0 (A*R):=by
 have:Mod w w0 (X*(A*R)):=Mod.to (m:=m) (cC _ _ _);exact Mod.drop (A:=X)
theorem IJ {w w0:World}{S y G:ba}{z:Type}(B:z->ba){E:z}(m:Mod w w0 S) [O:eM S B E y] [s:Sub y G]:Mod w w0 (B E*G):=by
 rw[O.eq]at m;refine⟨m.os,m.tape,m.output,?_⟩;have h:=m.says;rw[bo]at h ⊢;obtain⟨a,b,I,J,K,M⟩:=h;exact⟨a,b,I,J,K,s.sub _ M⟩
theorem lS {w w0:World}{S:ba}{e:TypeId}(m:Mod w w0 S):Mod w w0 (ar e 1 (.slice none 0 0) 0 []*S):=by
 refine Mod.conv (S:=sC*S) (m:=by rw[b9];exact m) fun _ h=>lF (A:=sC) (fun y z=>?_) h;have z:y=Hp.none:=z;subst z;exact gM _ _
structure iO (D:aq)(keep:Nat)(b:Bool)(D':aq):Prop where
 size:D'.size=D.size
 ok:cJ D'
 both:D'.sure=D'.now
 names:(D'.now.map (·.1)).Perm ((gz D b).map (·.1))
 file:∀q∈gz D b,∃g,br D'.now q.1=some g/\cw D'.files g=some (fG D keep q.2)
theorem Qa (p:Nat)(D:aq)(w w0:World)(S F:ba)(m:Mod w w0 S)(t:eM S (bv p) D F)(keep:Nat)(b:Bool)(hk:keep<=9223372036854775807)(k:Int)(I:k=keep) :
 Calls Tryz.prog 18 #[.pointer (some ⟨p,0,none⟩),.int .i64 k,.bool b] w fun e U=>∃E J,e=.returned (.tuple #[ap E,.int .i64 0])/\iO D keep b J/\Mod U w0 (bv E J*S):=by
 subst I;refine(QG p D w w0 S F m t keep b hk).mono ?_;rintro e U ⟨E,M,rfl,K,hd,z,m'⟩;refine⟨E,⟨D.size,M.dir,M.dir,M.tab⟩,rfl,⟨rfl,z,rfl,?_,fun q hq=>?_⟩,m'⟩
 ·have B:=K.map (·.1)
  rw[Yw,Yw]at B;rw[iH];exact(zbm _).trans B
 ·have B:(q.1,fG D keep q.2)∈M.map fun q=>(q.1,q.2.2):=K.symm.subset (ZC (f:=fun q:ByteArray×Nat=>(q.1,fG D keep q.2)) hq)
  obtain⟨r,O,Z⟩:=Zz.1 B;injection Z with V Y;rw[<-V,<-Y];have y:(r.1,r.2.1)∈M.dir:=yV.2 (ZC (f:=fun q:ByteArray×Nat×dr=>(q.1,q.2.1)) O);exact⟨r.2.1,Qt z.keys y,Lq _ _ _ (by unfold gu.tab;rw[Yw];exact hd) (ZC (f:=fun q:ByteArray×Nat×dr=>q.2) O)⟩
theorem gL {D:aq}{g:Nat}{f:dr}(h:cw D.files g=some f)(keep:Nat):fG D keep g=kept keep f:=by unfold fG;rw[h]
end Go.Proofs.YtdfppjcaelghhaaGreatDoor
