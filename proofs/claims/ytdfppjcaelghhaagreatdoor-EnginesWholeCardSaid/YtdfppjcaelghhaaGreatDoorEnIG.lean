/- Plain lemmas and contracts; the conditions are in each. -/
import Derived.Test.YtdfppjcaelghhaaGreatDoorEnHG
import Derived.Test.YtdfppjcaelghhaaGreatDoorMfDG
namespace Go.Proofs.YtdfppjcaelghhaaGreatDoor
open Go Go.Sl
structure Kept (P:ByteArray->Prop)(D D':aq):Prop where
 size:D'.size=D.size
 now:∀s,P s->br D'.now s=br D.now s
 file:∀s g f,P s->br D.now s=some g->cw D.files g=some f->cw D'.files g=some f
section
variable {P:ByteArray->Prop}{D D' D'':aq}
theorem Kept.refl (P:ByteArray->Prop)(D:aq):Kept P D D:=⟨rfl,fun _ _=>rfl,fun _ _ _ _ _ h=>h⟩
theorem Kept.trans (h:Kept P D D')(h':Kept P D' D''):Kept P D D'' :=
 ⟨h'.size.trans h.size,fun s y=>(h'.now s y).trans (h.now s y),fun s g f y z B=>h'.file s g f y ((h.now s y).trans z) (h.file s g f y z B)⟩
theorem Kept.mono {Q:ByteArray->Prop}(h:Kept P D D')(z:∀s,Q s->P s):Kept Q D D':=⟨h.size,fun s y=>h.now s (z s y),fun s g f y=>h.file s g f (z s y)⟩
theorem Kept.names:Kept P D {D with sure:=D.now}:=⟨rfl,fun _ _=>rfl,fun _ _ _ _ _ h=>h⟩
theorem Kept.gone {nm:ByteArray}(h:∀s,P s->s≠nm):Kept P D {D with now:=cG D.now nm} :=
 ⟨rfl,fun s y=>by show br (cG D.now nm) s=_;rw[lD,if_neg (h s y)],fun _ _ _ _ _ h=>h⟩
theorem Kept.made {nm:ByteArray}{g:Nat}(z:cw D.files g=none)(h:∀s,P s->s≠nm):Kept P D (jY D nm g) :=
 ⟨rfl,fun s B=>by show br (cV D.now nm g) s=_;rw[fN,if_neg (h s B)],fun _ _ _ _ _ y=>nC z _ _ _ y⟩
theorem Kept.Pe {nm:ByteArray}{b:List UInt8}(p:yF D nm b D')(h:∀s,P s->s≠nm):Kept P D D' :=
 ⟨p.get.1,fun s z=>p.get.2.2.2.1 s (h s z),fun _ _ _ _ _ y=>p.get.2.2.1.files _ _ y⟩
theorem Kept.laid {num:Nat}{cs:List (List ao)}(l:qQ D num cs D')(h:∀s,P s->∀i,i<cs.length->s≠cY (num+i)):Kept P D D':=by
 induction l with
 | nil D num=>exact Kept.refl P D
 | cons p t B =>
   refine(Kept.Pe p fun s y=>h s y 0 (by simp)).trans (B fun s y i z=>?_);rw[YB,XR 1 i];exact h s y (i+1) (by simpa using z)
theorem Kept.append {nm:ByteArray}{g:Nat}{v:dr}(I:(D.now.map (·.2)).Nodup)(E:br D.now nm=some g)(h:∀s,P s->s≠nm):Kept P D {D with files:=iS D.files g v}:=by
 refine⟨rfl,fun _ _=>rfl,fun s z f K J B=>?_⟩
 have y:z≠g:=fun e=>by
  subst e;have:=n8 (f:=(·.2)) I (fj J) (fj E) rfl;exact h s K (congrArg Prod.fst this)
 show cw (iS D.files g v) z=_;rw[jX _ _ _ _ y];exact B
end
theorem ki.kept {D D':aq}(h:ki D D'):Kept (fun s=>gc s=false) D D':=⟨h.size,h.now,fun s g f y=>h.file s g f y⟩
theorem pY.kept {P:ByteArray->Prop}{D D':aq}{num:Nat}{l:List ao}(h:pY D num l)(k:Kept P D D')(hp:P (cY num)):pY D' num l:=by
 obtain⟨g,q,y,z⟩:=h.ex;exact⟨h.ok,h.len,h.size,g,q,(k.now _ hp).trans y,k.file _ _ _ hp y z⟩
theorem MX {D D':aq}{num:Nat}{cs:List (List ao)}(l:qQ D num cs D')(hn:num+cs.length<4294967296):∀i (y:i<cs.length),∃g,br D'.now (cY (num+i))=some g/\cw D'.files g=some ⟨cq cs[i],(cq cs[i]).length⟩:=by
 induction l with
 | nil D num=>exact fun i y=>absurd y (by simp)
 | cons p t I =>
   rename_i D D1 D' num c cs
   intro i y;rw[List.length_cons]at hn
   cases i with
   | zero =>
     obtain⟨g,z,B⟩:=p.get.2.2.2.2
     have k:=Kept.laid (P:=fun s=>s=cY num) t fun s E i y e=>by
      have:=(ql oMg oMg (E.symm.trans e)).2;omega
     refine⟨g,?_,?_⟩
     ·show br D'.now (cY (num+0))=_
      rw[Nat.add_zero];exact(k.now _ rfl).trans z
     ·exact k.file _ _ _ rfl z B
   | succ i =>
     have h:=I oMg i (by simpa using y);rw[show num+1+i=num+(i+1) by omega]at h;exact h
theorem tx {D D':aq}{num:Nat}{cs:List (List ao)}(l:qQ D num cs D'):D'.size=D.size/\D'.sure=D.sure:=by
 induction l with
 | nil D num=>exact⟨rfl,rfl⟩
 | cons p t y=>exact⟨y.1.trans p.get.1,y.2.trans p.get.2.1⟩
theorem JK {D D':aq}{num:Nat}{cs:List (List ao)}(l:qQ D num cs D'):D'.now.length<=D.now.length+cs.length:=by
 induction l with
 | nil D num=>simp
 | cons p t y=>have:=p.many;rw[List.length_cons];omega
def lN (D:aq)(P:ByteArray->Prop):Prop:=∀s,gc s=false->br D.now s≠none->P s
section
variable {D D':aq}{P Q:ByteArray->Prop}
theorem lN.mono (h:lN D P)(B:∀s,P s->Q s):lN D Q:=fun s y z=>B s (h s y z)
theorem lN.names (h:lN D P):lN {D with sure:=D.now} P:=h
theorem lN.same (h:lN D P)(e:∀s,gc s=false->br D'.now s=br D.now s):lN D' P:=fun s y z=>h s y (by rw[<-e s y];exact z)
theorem lN.gone (h:lN D P)(nm:ByteArray):lN {D with now:=cG D.now nm} fun s=>P s/\s≠nm:=fun s z y=>by
 have y:br (cG D.now nm) s≠none:=y;rw[lD]at y;by_cases e:s=nm
 ·rw[if_pos e]at y;exact absurd rfl y
 ·rw[if_neg e]at y;exact⟨h s z y,e⟩
theorem lN.made (h:lN D P)(nm:ByteArray)(g:Nat):lN (jY D nm g) fun s=>P s\/s=nm:=fun s z y=>by
 have y:br (cV D.now nm g) s≠none:=y;rw[fN]at y;by_cases e:s=nm
 ·exact .inr e
 ·rw[if_neg e]at y;exact .inl (h s z y)
theorem lN.laid {num:Nat}{cs:List (List ao)}(l:qQ D num cs D'):∀{P:ByteArray->Prop},lN D P->lN D' fun s=>P s\/∃i,i<cs.length/\s=cY (num+i):=by
 induction l with
 | nil D num=>exact fun h=>h.mono fun s y=>.inl y
 | cons p t E =>
   rename_i D D1 D' num c cs
   intro P h
   have z:lN D1 fun s=>P s\/s=cY num:=fun s z B=>by
    by_cases e:s=cY num
    ·exact .inr e
    ·rw[p.get.2.2.2.1 s e]at B;exact .inl (h s z B)
   refine(E z).mono fun s y=>?_;rcases y with(y | y) | ⟨i,hi,y⟩
   ·exact .inl y
   ·exact .inr ⟨0,by simp,y⟩
   ·exact .inr ⟨i+1,by simpa using hi,by rw[y];congr 1;omega⟩
end
theorem uN {α:Type}{f g:α->Nat}:∀{l:List α},(∀x∈l,f x<=g x)->(l.map f).sum<=(l.map g).sum
 | [],_=>Zm _
 | x::l,h=>by
   have B:=h x (Zj ..);have E:=uN (l:=l) fun y z=>h y (Zh _ z);simp only[Zy,List.sum_cons];omega
def ub (T:ep)(M:qP)(s:ByteArray):Nat:=(((br M s).bind (cw T)).map (·.bytes.length)).getD 0
abbrev pA (D:aq)(s:ByteArray):Nat:=ub D.files D.now s
theorem ti (T:ep):∀(L:List ByteArray)(M:qP),(M.map (·.1)).Nodup->(∀q∈M,q.1∈L)->eh T M<=(L.map (ub T M)).sum
 | [],M,_,h=>by
   cases M with
   | nil=>exact Zm _
   | cons q M=>exact absurd (h q (Zj ..)) (by simp)
 | s::L,M,hn,h=>by
   rw[Zy,List.sum_cons]
   cases z:br M s with
   | none =>
     have:=ti T L M hn fun q y=>by
      rcases Zu.1 (h q y)with e | e
      ·exact absurd e (ot z q y)
      ·exact e
     omega
   | some g =>
     have E:=rZ T s g hn z
     have I:=ti T L (cG M s) (hn.sublist ((kT M s).map _)) fun q y=>by
      have B:=(kT M s).subset y;rcases Zu.1 (h q B)with e | e
      ·exact absurd e (ot (kz M s) q y)
      ·exact e
     have J:(L.map (ub T (cG M s))).sum<=(L.map (ub T M)).sum:=uN fun t _=>by
      unfold ub;rw[lD]
      split
      ·exact Zv _
      ·exact Zm _
     have K:ub T M s=((cw T g).map (·.bytes.length)).getD 0:=by unfold ub;rw[z];rfl
     omega
theorem Mf {D:aq}{L:List ByteArray}(h:lN D (·∈L)):∀q∈tY D.now,q.1∈L:=fun q y=>by
 unfold tY at y;obtain⟨z,B⟩:=ZB.1 y;obtain⟨g,E⟩:=vO (L:=D.now) (s:=q.1) (g:=q.2) z;exact h q.1 (by simpa using B) (by rw[E];simp)
theorem Df {D:aq}(z:(D.now.map (·.1)).Nodup){L:List ByteArray}(h:lN D (·∈L)):(tY D.now).length<=L.length:=by
 have y:((tY D.now).map (·.1)) ⊆ L:=fun s E=>by
  obtain⟨q,B,rfl⟩:=Zz.1 E;exact Mf h q B
 have:=(vQ z).length_le_of_subset y;simpa using this
theorem Nc {D:aq}(y:(D.now.map (·.1)).Nodup){L:List ByteArray}(h:lN D (·∈L)):sV D<=(L.map (pA D)).sum:=by
 refine Yl (ti D.files L (tY D.now) (vQ y) (Mf h)) (uN fun s _=>?_);unfold ub tY;rw[lw (fun s => !gc s)]
 split
 ·exact Zm _
 ·exact Zv _
theorem uL {D:aq}{s:ByteArray}{g:Nat}{f:dr}(y:br D.now s=some g)(z:cw D.files g=some f):pA D s=f.bytes.length:=by
 unfold pA ub;rw[y];show ((cw D.files g).map _).getD 0=_;rw[z];rfl
theorem G8 {D:aq}{num:Nat}{l:List ao}(h:pY D num l):pA D (cY num)=(cq l).length:=by
 obtain⟨g,k,y,z⟩:=h.ex;exact uL y z
theorem AH {D:aq}(y:cJ D)(s:ByteArray):pA D s<=1048576:=by
 unfold pA ub
 cases B:br D.now s with
 | none=>simp
 | some g =>
   show ((cw D.files g).map _).getD 0≤_
   cases z:cw D.files g with
   | none=>simp
   | some f=>exact y.len _ (jo _ _ _ z)
theorem xW:∀(cs:List (List ao)),(∀c∈cs,∀x∈c,fS x)->(dj cs).length<=314*cs.flatten.length+10*cs.length
 | [],_=>by simp[dj]
 | c::cs,h=>by
   have y:=xW cs fun d hd=>h d (Zh _ hd);have z:=qS (h c (Zj ..));have e:dj (c::cs)=gt (cU c)++dj cs:=by simp[dj]
   rw[e,Ze,jM,List.length_cons,List.flatten_cons,Ze];omega
theorem BE (b:List UInt8)(k:Nat):(oD b k).length=b.length:=by unfold oD;exact zaw ..
theorem I1 (z:List ByteArray):(ui z).length=kv z.length+1:=by
 unfold ui
 have h:∀(l:List ByteArray)(n:Nat)(b:List UInt8),(l.foldl (fun b k=>(List.range 6).foldl (fun b i=>oD b (oH k n i)) b) b).length=b.length:=by
  intro l n
  induction l with
  | nil=>exact fun b=>rfl
  | cons k l E =>
    intro b;rw[List.foldl_cons,E]
    have B:∀(r:List Nat)(b:List UInt8),(r.foldl (fun b i=>oD b (oH k n i)) b).length=b.length:=by
     intro r
     induction r with
     | nil=>exact fun b=>rfl
     | cons i r y=>intro b;rw[List.foldl_cons,y,BE]
    exact B _ b
 rw[h];simp[eA]
theorem te {l:List ao}(h:fV l)(V:l.length<=1000000):(cq l).length<=400*l.length+200:=by
 have B:=xW (cH l) fun c y x z=>h.ok x ((jV y).2.2.subset z);have I:=xm l;have J:=rz (cH l) 0 (fun c y=>⟨(jV y).1,(jV y).2.1,fun x z=>h.ok x ((jV y).2.2.subset z)⟩) oMg;have K:=I1 (nu l);have M:=JH l;have O:=cN (n:=(cH l).length) oMg;have U:kv (nu l).length<=2*l.length+9:=by unfold kv;omega
 have E:∀n,(ff n).length=4:=fun n=>by simp[ff]
 rw[qU]at B;unfold cq;simp only[Ze,jM,E,indexB];omega
open Go Go.Sl
theorem Kg {D:aq}{num:Nat}{rs:List (List UInt8)}(h:OC D num rs)(E:(D.now.map (·.1)).Nodup):(D.now.filter fun q=>gc q.1).length<=2:=by
 have y:((D.now.filter fun q=>gc q.1).map (·.1)) ⊆ [nM,cD num]:=by
  intro s J;obtain⟨q,I,rfl⟩:=Zz.1 J;obtain⟨z,B⟩:=ZB.1 I;rcases h.own q z B with e | e <;> simp[e]
 have:=(E.sublist (ZT.map _):((D.now.filter fun q=>gc q.1).map (·.1)).Nodup).length_le_of_subset y;simpa using this
theorem jG.beside {D D':aq}{num:Nat}{xs:List db}{k:dk}(h:jG D num xs k)(y:Kept (fun s=>gc s=true) D D')(z:D'.sure=D'.now)(few:(tY D'.now).length<=50):jG D' num xs k:=by
 obtain⟨Y,V,B,E,O,U,a5,a6⟩:=h.disk.ex;have I:=(y.now nM EC).trans B;have J:=(y.now (cD num) (pq num)).trans E
 have own:∀q∈D'.now,gc q.1=true->q.1=nM\/q.1=cD num:=fun q Z M=>by
  obtain⟨g,K⟩:=vO (L:=D'.now) (s:=q.1) (g:=q.2) Z;rw[y.now _ M]at K;exact h.disk.own (q.1,g) (fj K) M
 exact⟨⟨⟨Y,V,I,J,y.file _ _ _ EC B O,y.file _ _ _ (pq num) E U,by rw[z];exact I,by rw[z];exact J⟩,own,by rw[z];exact own⟩,h.fold,h.know,h.each,h.head,h.tail,few,by rw[z];exact few⟩
structure Ny (D:aq)(nx:Nat)(f:bi)(l:List ao):Prop where
 here:pY D f.num l
 least:f.least=ju l 0
 most:f.most=ju l (l.length-1)
 num:f.num<nx
structure qb (D:aq)(num:Nat)(xs:List db)(k:dk)(ent:Nat->List ao)(P:ByteArray->Prop):Prop where
 man:jG D num xs k
 each:∀f∈k.files,Ny D k.next f (ent f.num)
 only:lN D fun s=>P s\/∃f∈k.files,s=cY f.num
 lev:∀f∈k.files,f.level=0\/f.level=1\/f.level=3
 jn:k.al<max 1 k.next
theorem qb.turn {D D':aq}{num:Nat}{xs:List db}{k:dk}{ent:Nat->List ao}{P B:ByteArray->Prop}(h:qb D num xs k ent P)(E:Kept (fun s=>gc s=true\/∃f∈k.files,s=cY f.num) D D')(z:D'.sure=D'.now)
 (I:lN D' fun s=>B s\/∃f∈k.files,s=cY f.num) (few:(tY D'.now).length<=50):qb D' num xs k ent B :=
 ⟨h.man.beside (E.mono fun _ z=>.inl z) z few,fun f y=>⟨(h.each f y).here.kept E (.inr ⟨f,y,rfl⟩),(h.each f y).least,(h.each f y).most,(h.each f y).num⟩,I,h.lev,h.jn⟩
theorem qb.z6 {D:aq}{num:Nat}{xs:List db}{k:dk}{ent:Nat->List ao}{P:ByteArray->Prop}(h:qb D num xs k ent P):∀f∈k.files,f.num<4294967296:=h.man.know.nums
def lO (k:dk)(ent:Nat->List ao):List ao:=k.files.flatMap fun f=>ent f.num
theorem o7 {α β:Type}(g:α->List β)(c d:Nat)(z:α->Nat):∀(l:List α),(∀x∈l,z x<=c*(g x).length+d)->(l.map z).sum<=c*(l.flatMap g).length+d*l.length
 | [],_=>by simp
 | x::l,h=>by
   have E:=h x (Zj ..);have I:=o7 g c d z l fun y B=>h y (Zh _ B);rw[Zy,List.sum_cons,Zp,Ze,List.length_cons,Nat.mul_add,Nat.mul_add];omega
section
variable {D:aq}{num:Nat}{xs:List db}{k:dk}{ent:Nat->List ao}{L:List ByteArray}
theorem qb.NI (h:qb D num xs k ent (·∈L)):lN D (·∈L++k.files.map fun f=>cY f.num):=h.only.mono fun s y=>by
 rcases y with y | ⟨f,z,rfl⟩
 ·exact ZN _ y
 ·exact Ym _ (Zz.2 ⟨f,z,rfl⟩)
theorem qb.sV (h:qb D num xs k ent (·∈L))(y:cJ D):sV D<=(L.map (pA D)).sum+(400*(lO k ent).length+200*k.files.length):=by
 have z:=Nc y.keys h.NI;rw[ZP,zay,Yw]at z
 have E:=o7 (fun f:bi=>ent f.num) 400 200 (pA D∘fun f=>cY f.num) k.files fun f B=>by
  have:=(h.each f B).here;show pA D (cY f.num)≤_;rw[G8 this];exact te this.ok (by have:=this.len;omega)
 unfold lO;omega
theorem qb.names (h:qb D num xs k ent (·∈L))(y:cJ D):D.now.length<=2+(L.length+k.files.length)/\(tY D.now).length<=L.length+k.files.length:=by
 have B:=Kg h.man.disk y.keys;have z:=Df y.keys h.NI;have E:=wM (fun q=>gc q.1) D.now;rw[Ze,ZW]at z;unfold tY at z ⊢;omega
theorem qb.used (h:qb D num xs k ent (·∈L))(y:cJ D)(hn:num<4294967296):eh D.files D.now<=12+(al [] (cf xs)).length+((L.map (pA D)).sum+(400*(lO k ent).length+200*k.files.length)):=by
 have z:=h.man.used y;have B:=h.sV y;have E:=l8 hn;omega
end
def lK (ent:Nat->List ao)(num:Nat)(cs:List (List ao)):Nat->List ao:=fun n=>if num<=n/\n<num+cs.length then cs.getD (n-num) []else ent n
theorem zg {ent:Nat->List ao}{num n:Nat}{cs:List (List ao)}(h:n<num):lK ent num cs n=ent n:=by unfold lK;rw[if_neg oMg]
theorem zf {ent:Nat->List ao}{num i:Nat}{cs:List (List ao)}(h:i<cs.length):lK ent num cs (num+i)=cs[i]:=by
 unfold lK;rw[if_pos oMg,Zw,show num+i-num=i by omega,Zg h];rfl
theorem jm {lv:Int}:∀{num:Nat}{cs:List (List ao)}{f:bi},f∈cX lv num cs->∃i,∃y:i<cs.length,f=mI lv (num+i) cs[i]
 | num,[],f,h=>by cases h
 | num,c::cs,f,h=>by
   rcases Zu.1 h with rfl | h
   ·exact⟨0,by simp,by simp⟩
   ·obtain⟨i,y,rfl⟩:=jm h
    exact⟨i+1,by simpa using y,by simp only[List.getElem_cons_succ];congr 1;omega⟩
theorem iB (lv:Int):∀(num:Nat)(cs:List (List ao)),(cX lv num cs).map (·.num)=List.range' num cs.length
 | num,[]=>rfl
 | num,c::cs=>by simp only[cX,Zy,iB lv (num+1) cs,List.length_cons,List.range'_succ];rfl
theorem C1 (lv:Int)(ent:Nat->List ao)(num:Nat)(cs:List (List ao)):(cX lv num cs).flatMap (fun f=>lK ent num cs f.num)=cs.flatten:=by
 have h:∀(pre r:List (List ao)),pre++r=cs->(cX lv (num+pre.length) r).flatMap (fun f=>lK ent num cs f.num)=r.flatten:=by
  intro pre r
  induction r generalizing pre with
  | nil=>exact fun _=>rfl
  | cons c r I =>
    intro e;have y:=I (pre++[c]) (by rw[<-e];simp);rw[Ze,List.length_singleton,<-YB]at y;simp only[cX,Zp,List.flatten_cons,y];have E:pre.length<cs.length:=by rw[<-e];simp
    have z:=zf (ent:=ent) (num:=num) E;have B:cs[pre.length]=c:=by subst e;simp
    rw[B]at z;show lK ent num cs (num+pre.length)++_=_;rw[z]
 have:=h [] cs rfl;simpa using this
theorem uR (l:List bi):jU l=false↔(l.map (·.num)).Nodup:=by unfold jU;simp
theorem B5:∀{l:List bi}{i:Nat}(hi:i<l.length),(l.map (·.num)).Nodup->l.eraseIdx i=l.filter fun f => !decide (f.num=l[i].num)
 | [],i,hi,_=>by simp at hi
 | f::l,0,_,hn=>by
   simp only[Zy,Yq]at hn;rw[XF,List.tail_cons,List.getElem_cons_zero,ZQ (by simp)]
   symm
   refine ZR.2 fun g B=>?_;have:g.num≠f.num:=fun e=>hn.1 (by rw[<-e];exact Zz.2 ⟨g,B,rfl⟩);simp[this]
 | f::l,i+1,hi,hn=>by
   simp only[Zy,Yq]at hn;have y:i<l.length:=by simpa using hi
   have z:f.num≠l[i].num:=fun e=>hn.1 (by rw[e];exact Zz.2 ⟨l[i],Zq y,rfl⟩);rw[List.eraseIdx_cons_succ,List.getElem_cons_succ,ZZ (by simp[z]),B5 y hn.2]
theorem tP:∀(z:List Nat){l:List bi},(l.map (·.num)).Nodup->z.Nodup->(∀n∈z,∃f∈l,f.num=n)->jg l z=some (l.filter fun f => !z.contains f.num)
 | [],l,_,_,_=>by
   simp only[jg,zbn]
   symm
   exact ZR.2 fun f _=>by simp
 | v::vs,l,hn,hs,h=>by
   obtain⟨f,K,O⟩:=h v (Zj ..);have E:=Yq.1 hs;simp only[jg]
   cases y:l.findIdx? (fun f=>decide (f.num=v))with
   | none =>
     rw[ZV]at y;have:=y f K;simp[O]at this
   | some i =>
     rw[Zk]at y;obtain⟨B,hp,_⟩:=y;have hp:l[i].num=v:=by simpa using hp
     simp only;rw[B5 B hn,hp,tP vs (hn.sublist (ZT.map _)) E.2 fun n I=>?_]
     ·rw[Y8]
      congr 1
      refine Y4 fun g _=>?_;rw[List.contains_cons,XI];simp only[Yg,Xe,decide_eq_false_iff_not,y9,beq_eq_false_iff_ne,ne_eq];exact⟨fun⟨a,b⟩=>⟨b,a⟩,fun⟨a,b⟩=>⟨b,a⟩⟩
     ·obtain⟨g,M,e⟩:=h n (Zh _ I)
      refine⟨g,ZB.2 ⟨M,?_⟩,e⟩;have:g.num≠v:=fun J=>E.1 (by rw[<-J,e];exact I);simp[this]
theorem DQ {k:dk}(B:oz k){added:List bi}{rem:List Nat}(j nx seq:Nat)(y:∀f∈added,oC f=true)(hn:(added.map (·.num)).Nodup)(U:∀f∈added,∀g∈k.files,f.num≠g.num)(Y:rem.Nodup)(E:∀n∈rem,∃f∈k.files,f.num=n) :
 wz k ⟨added,rem,j,nx,seq⟩=some ⟨ei ((k.files.filter fun f => !rem.contains f.num)++added),j,nx,seq⟩:=by
 have I:=(uR _).1 B.once;have J:=(oV added).2 y
 have K:jU ((k.files.filter fun f => !rem.contains f.num)++added)=false:=by
  rw[uR,ZP,Yx];refine⟨I.sublist (ZT.map _),hn,fun a y b O e=>?_⟩;obtain⟨g,V,rfl⟩:=Zz.1 y;obtain⟨f,z,rfl⟩:=Zz.1 O;exact U f z g (ZB.1 V).1 e.symm
 have M:FT k.files ⟨added,rem,j,nx,seq⟩=some (ei ((k.files.filter fun f => !rem.contains f.num)++added)):=by
  unfold FT;rw[if_neg (by simp only[B.fine,J,B.once];simp),tP rem I Y E];simp only[K,YH,if_false]
 unfold wz;rw[M];rfl
theorem CE:∀(l:List Nat),(∀n∈l,n<4294967296)->(l.flatMap ca).length<=10*l.length
 | [],_=>by simp
 | n::l,h=>by
   have z:=cN (n:=n) (by have:=h n (Zj ..);omega);have B:=CE l fun m y=>h m (Zh _ y);rw[Zp,Ze,List.length_cons];omega
theorem BZ {x:db}(y:∀f∈x.added,oC f=true)(hn:∀f∈x.added,f.num<4294967296)(E:∀n∈x.removed,n<4294967296)(z:x.added.length<=1000)(B:x.removed.length<=1000)(M:x.al<4294967296)(O:x.next<4294967296)(I:x.seq<18446744073709551616) :
 (de x).length<=50+(104*x.added.length+10*x.removed.length):=by
 have J:=E8 x.added y hn;have K:=CE x.removed E;have U:=cN (n:=x.added.length) oMg;have V:=cN (n:=x.removed.length) oMg;have Y:=cN (n:=x.al) oMg;have Z:=cN (n:=x.next) oMg;have v5:=cN I;unfold de;simp only[Ze];omega
theorem Gx {a b:ByteArray}(h:a.toList<b.toList\/a=b):Ov a b=true:=by
 unfold Ov;simp only[Go.Proofs.bytesLess_eq,Xh,decide_eq_true_eq];rcases h with h | rfl
 ·exact .inl h
 ·exact .inr (by simp)
theorem ut {lv:Int}{num:Nat}{c:List ao}(h:fV c)(U:lv=0\/lv=1\/lv=3):oC (mI lv num c)=true:=by
 have hp:=ZO.2 h.ne;have B:ju c 0=c[0].key:=kc hp;have E:ju c (c.length-1)=c[c.length-1].key:=kc oMg;have M:=(h.ok _ (Zq hp)).key;have O:=(h.ok _ (Zq (show c.length-1<c.length by omega))).key
 have z:Ov (ju c 0) (ju c (c.length-1))=true:=by
  rw[B,E];by_cases e:c.length-1=0
  ·exact Gx (.inr (by simp only[e]))
  ·have:=Z0.1 h.rise 0 (c.length-1) hp oMg oMg
   rcases this with y | ⟨y,_⟩
   ·exact Gx (.inl y)
   ·exact Gx (.inr y)
 have I:mj (ju c 0)=true:=by rw[B];exact M
 have J:mj (ju c (c.length-1))=true:=by rw[E];exact O
 have K:Bu lv=true:=by
  unfold Bu;simp only[Yg,decide_eq_true_eq];omega
 show (((Bu lv&&mj (ju c 0))&&mj (ju c (c.length-1)))&&Ov (ju c 0) (ju c (c.length-1)))=true;rw[z,I,J,K];rfl
open Go Go.Sl
structure qc (W C:List ao)(seq:Nat)(looks:List Nat):Prop where
 one:yi W
 ok:∀x∈W,fS x/\x.seq<=seq
 sub:∀x∈C,x∈W
 DN:C.Pairwise fun a b=>¬eW a b
 nh:∀s∈looks,∀k v,nh C s k v↔nh W s k v
section
variable {W C:List ao}{seq:Nat}{looks:List Nat}
theorem qc.none (seq:Nat)(looks:List Nat):qc [] [] seq looks :=
 ⟨fun _ h=>(by cases h),fun _ h=>(by cases h),fun _ h=>(by cases h),List.Pairwise.nil,fun _ _ _ _=>Iff.rfl⟩
theorem qc.perm (h:qc W C seq looks){B:List ao}(p:C.Perm B):qc W B seq looks :=
 ⟨h.one,h.ok,fun x I=>h.sub x (p.mem_iff.2 I),p.pairwise h.DN fun z y=>z ⟨y.1.symm,y.2.1.symm,y.2.2.symm⟩,fun s E k v=>(Mx (fun _=>p.symm.mem_iff) s k v).trans (h.nh s E k v)⟩
theorem qc.fewer (h:qc W C seq looks){y:List Nat}(z:∀s∈y,s∈looks):qc W C seq y:=⟨h.one,h.ok,h.sub,h.DN,fun s B=>h.nh s (z s B)⟩
theorem qc.Oc (h:qc W C seq looks):yi C:=vP h.one h.sub
theorem pR {A:List ao}(h:A.Pairwise fun a b=>¬eW a b):fc (ij A) :=
 Ah (E3 A) ((jk A).symm.pairwise h fun z y=>z ⟨y.1.symm,y.2.1.symm,y.2.2.symm⟩)
theorem AC {J:List ao}{s:Nat}(K:∀x∈J,s<x.seq)(k v:ByteArray):nh (C++J) s k v↔nh C s k v:=by
 constructor
 ·rintro⟨x,z,B,E⟩
  have O:x∈C:=by
   rcases ZA.1 z.mem with h | h
   ·exact h
   ·have:=K x h;have:=z.upto;omega
  exact⟨x,⟨O,z.key,z.upto,fun y I=>z.max y (ZN _ I)⟩,B,E⟩
 ·rintro⟨x,z,B,E⟩
  refine⟨x,⟨ZN _ z.mem,z.key,z.upto,fun y I M U=>?_⟩,B,E⟩;rcases ZA.1 I with h | h
  ·exact z.max y h M U
  ·have:=K y h;omega
theorem Cw {K:List ao}(O:∀x∈C,x.seq<=seq)(M:∀x∈K,x.seq=seq+1)(k v:ByteArray):nh (C++K) (seq+1) k v↔(∃x∈K,x.key=k/\x.gone=false/\x.value=v)\/((∀x∈K,x.key≠k)/\nh C seq k v):=by
 constructor
 ·rintro⟨x,z,I,J⟩
  rcases ZA.1 z.mem with h | h
  ·refine .inr ⟨fun y E B=>?_,x,⟨h,z.key,O x h,fun y E B U=>z.max y (ZN _ E) B oMg⟩,I,J⟩
   have V:=z.max y (Ym _ E) B (by have:=M y E;omega);have:=M y E;have:=O x h;omega
  ·exact .inl ⟨x,h,z.key,I,J⟩
 ·rintro(⟨x,z,B,I,J⟩ | ⟨hn,x,z,I,J⟩)
  ·refine⟨x,⟨Ym _ z,B,by have:=M x z;omega,fun y E _ U=>by have:=M x z;omega⟩,I,J⟩
  ·refine⟨x,⟨ZN _ z.mem,z.key,by have:=z.upto;omega,fun y E B U=>?_⟩,I,J⟩
   rcases ZA.1 E with h | h
   ·exact z.max y h B (O y h)
   ·exact absurd B (hn y h)
theorem Mh {B:List ao}(h:B.Pairwise fun a b=>a.key≠b.key){x y:ao}(J:x∈B)(K:y∈B)(e:x.key=y.key):x=y:=by
 obtain⟨i,E,rfl⟩:=ZI.1 J;obtain⟨j,I,rfl⟩:=ZI.1 K;rcases Xv i j with z | z | z
 ·exact absurd e (Z0.1 h i j E I z)
 ·subst z;rfl
 ·exact absurd e.symm (Z0.1 h j i I E z)
theorem qc.write (h:qc W C seq looks)(Y:∀s∈looks,s<=seq)(K:seq∈looks){O:List ao}(I:∀x∈O,fS x/\x.seq=seq+1)(V:O.Pairwise fun a b=>a.key≠b.key):qc (W++O) (C++O) (seq+1) ((seq+1)::looks):=by
 have J:∀x∈C,x.seq<=seq:=fun x z=>(h.ok x (h.sub x z)).2;refine⟨fun x z y U M hs=>?_,fun x z=>?_,fun x z=>?_,?_,fun s hs k v=>?_⟩
 ·rcases ZA.1 z with B | B
  ·rcases ZA.1 U with E | E
   ·exact h.one x B y E M hs
   ·have:=(h.ok x B).2;have:=(I y E).2;omega
  ·rcases ZA.1 U with E | E
   ·have:=(h.ok y E).2;have:=(I x B).2;omega
   ·exact Mh V B E M
 ·rcases ZA.1 z with B | B
  ·exact⟨(h.ok x B).1,zac (h.ok x B).2⟩
  ·exact⟨(I x B).1,Nat.le_of_eq (I x B).2⟩
 ·rcases ZA.1 z with B | B
  ·exact ZN _ (h.sub x B)
  ·exact Ym _ B
 ·refine Yf.2 ⟨h.DN,V.imp fun B E=>B E.1,fun x z y U Z=>?_⟩
  have:=J x z;have:=(I y U).2;have:=Z.2.1;omega
 ·rcases Zu.1 hs with rfl | hs
  ·rw[Cw J (fun x z=>(I x z).2),Cw (fun x z=>(h.ok x z).2) (fun x z=>(I x z).2),h.nh seq K]
  ·rw[AC (fun x z=>by have:=Y s hs;have:=(I x z).2;omega),AC (fun x z=>by have:=Y s hs;have:=(I x z).2;omega)]
   exact h.nh s hs k v
end
theorem oZ.conv {C y:List ao}{s:Nat}{a b:ByteArray}{R:List fI}(h:oZ C s a b R)(e:∀k v,nh C s k v↔nh y s k v):oZ y s a b R:=⟨h.rise,fun k v=>by rw[h.mem,e]⟩
theorem F5 {l:List ao}(h:fV l){x:ao}(M:x∈l):¬x.key.toList<(ju l 0).toList/\¬(ju l (l.length-1)).toList<x.key.toList:=by
 have hp:=ZO.2 h.ne;obtain⟨i,z,rfl⟩:=ZI.1 M
 have B:∀(i j:Nat)(z:i<l.length)(J:j<l.length),i<=j->¬l[j].key.toList<l[i].key.toList:=fun i j z J K y=>by
  rcases XH i j with I | I
  ·rcases Z0.1 h.rise i j z J I with E | ⟨E,_⟩
   ·exact eJ _ (lq E y)
   ·rw[E]at y;exact eJ _ y
  ·have:i=j:=oMg
   subst this;exact eJ _ y
 rw[kc hp,kc (show l.length-1<l.length by omega)];exact⟨B 0 i hp z oMg,B i (l.length-1) z oMg oMg⟩
theorem Jr {T:List ao}(h:∀x∈T,fS x):qs ⟨⟨#[]⟩,18446744073709551615,false,⟨#[]⟩⟩ T=T:=ZR.2 fun y B=>by
 have z:=(h y B).size;have I:=(h y B).seq
 have E:¬kF y ⟨⟨#[]⟩,18446744073709551615,false,⟨#[]⟩⟩:=by
  rintro(h | ⟨h,_⟩)
  ·have e:(⟨#[]⟩:ByteArray).toList=[]:=toList_no
   rw[e]at h;exact absurd h (List.not_lt_nil _)
  ·rw[h]at z
   exact absurd z.1 (by show ¬1<=0;omega)
 simp[E]
theorem Js {T:List ao}(h:∀x∈T,fS x)(a:ByteArray)(x:ao):x∈qs ⟨a,18446744073709551615,true,⟨#[]⟩⟩ T↔x∈T/\¬x.key.toList<a.toList:=by
 unfold qs;rw[ZB];refine and_congr_right fun z=>?_;have B:=(h x z).seq;simp only[Xe,decide_eq_false_iff_not];constructor
 ·exact fun hn y=>hn (.inl y)
 ·rintro hn (y | ⟨_,y | ⟨_,_,y⟩⟩)
  ·exact hn y
  ·have:(18446744073709551615:Nat)<x.seq:=y;omega
  ·cases y
def jd (T y:List ao):List ao:=y.foldl (fun T x=>oN x T) T
theorem kD:∀(y T:List ao),(jd T y).Perm (T++y)
 | [],T=>by simp[jd]
 | x::y,T=>by
   have z:=kD y (oN x T);have B:=(nD x T).append_right y;show (jd (oN x T) y).Perm _;refine z.trans (B.trans ?_);rw[List.cons_append];exact zao.symm
theorem xG:∀(B:List ao){T:List ao},fc T->(T++B).Pairwise (fun a b=>¬eW a b)->fc (jd T B)
 | [],_,h,_=>h
 | x::B,T,h,hp=>by
   have I:(oN x T++B).Pairwise fun a b=>¬eW a b:=by
    refine List.Perm.pairwise ?_ hp fun E z=>E ⟨z.1.symm,z.2.1.symm,z.2.2.symm⟩;exact(zao.trans (by rw[<-List.cons_append];exact(nD x T).symm.append_right B))
   exact xG B (Cf h fun y J=>(Yf.1 hp).2.2 y J x (Zj ..)) I
open Go Go.Sl
def jL (n:Nat):List ByteArray:=if n=0 then []else [ez n]
theorem ux (n:Nat):(jL n).length<=1:=by unfold jL;split <;> simp
abbrev Ez (n:Nat)(cs:List (List ao)):List ByteArray:=(List.range cs.length).map fun i=>cY (n+i)
theorem Eu {n:Nat}{cs:List (List ao)}{s:ByteArray}:s∈Ez n cs↔∃i,i<cs.length/\s=cY (n+i):=by
 unfold Ez;rw[Zz];constructor
 ·rintro⟨i,y,rfl⟩;exact⟨i,XA.1 y,rfl⟩
 ·rintro⟨i,y,rfl⟩;exact⟨i,XA.2 y,rfl⟩
theorem Ch {D D':aq}{n:Nat}{cs:List (List ao)}(l:qQ D n cs D')(hn:n+cs.length<4294967296)(E:∀c∈cs,fV c/\c.length<=4096/\(cq c).length<=1048576):∀i (y:i<cs.length),pY D' (n+i) cs[i]:=fun i y=>by
 obtain⟨g,z,B⟩:=MX l hn i y;have h:=E _ (Zq y);exact⟨h.1,h.2.1,h.2.2,g,_,z,B⟩
section
variable {D D1:aq}{num:Nat}{xs:List db}{k:dk}{ent:Nat->List ao}{L:List ByteArray}{n:Nat}{cs:List (List ao)}
theorem qb.nums (h:qb D num xs k ent (·∈L)):∀f∈k.files,f.num<4294967296:=h.man.know.nums
theorem qb.laid (h:qb D num xs k ent (·∈L))(l:qQ D n cs D1)(hn:k.next<=n)(K:n+cs.length<4294967296)(J:(D1.now.map (·.1)).Nodup)(B:L.length+(k.files.length+cs.length)<=50) :
 qb {D1 with sure:=D1.now} num xs k ent (·∈L++Ez n cs):=by
 have E:lN {D1 with sure:=D1.now} fun s=>s∈L++Ez n cs\/∃f∈k.files,s=cY f.num:=(lN.laid l h.only).names.mono fun s y=>by
  rcases y with(y | y) | y
  ·exact .inl (ZN _ y)
  ·exact .inr y
  ·exact .inl (Ym _ (Eu.2 y))
 refine h.turn ((Kept.laid l fun s y i O e=>?_).trans Kept.names) rfl E ?_
 ·rcases y with y | ⟨f,z,rfl⟩
  ·rw[e,qm]at y;cases y
  ·have M:=(h.each f z).num
   have:=(ql (h.nums f z) oMg e).2;omega
 ·have I:lN {D1 with sure:=D1.now} (·∈(L++Ez n cs)++k.files.map fun f=>cY f.num):=E.mono fun s y=>by
   rcases y with y | ⟨f,z,rfl⟩
   ·exact ZN _ y
   ·exact Ym _ (Zz.2 ⟨f,z,rfl⟩)
  have:=Df (D:={D1 with sure:=D1.now}) J I;simp only[Ze,ZW,XK]at this;show (tY D1.now).length<=50;have e:(tY D1.now).length=(tY ({D1 with sure:=D1.now}:aq).now).length:=rfl;omega
theorem xy (lv:Int):∀(num:Nat)(cs:List (List ao))(i:Nat)(y:i<cs.length),mI lv (num+i) cs[i]∈cX lv num cs
 | num,[],i,y=>by simp at y
 | num,c::cs,0,_=>Zj ..
 | num,c::cs,i+1,y=>by
   have:=xy lv (num+1) cs i (by simpa using y);rw[show num+1+i=num+(i+1) by omega]at this;exact Zh _ this
theorem qb.added {Y:aq}{I:Nat}{V:List db}{M:dk}{lv:Int}{rem:List Nat}{j nx seq:Nat}(h:qb D num xs k ent (·∈L++Ez n cs))(aa:∀i (K:i<cs.length),pY D (n+i) cs[i])(hm:jG Y I V M)(Z:ki D Y)
 (z:M=⟨ei ((k.files.filter fun f => !rem.contains f.num)++cX lv n cs),j,nx,seq⟩) (hn:k.next<=n) (ag:n+cs.length<=nx) (hj:j<max 1 nx) (af:lv=0\/lv=1\/lv=3) :
 qb Y I V M (lK ent n cs) (·∈L++rem.map cY):=by
 have B:∀f∈M.files,(f∈k.files/\rem.contains f.num=false)\/∃i,∃K:i<cs.length,f=mI lv (n+i) cs[i]:=fun f B=>by
  rw[z]at B;rcases ZA.1 (kg.1 B)with B | B
  ·obtain⟨O,J⟩:=ZB.1 B
   exact .inl ⟨O,by simpa using J⟩
  ·exact .inr (jm B)
 have U:M.next=nx:=by rw[z]
 have ae:M.al=j:=by rw[z]
 refine⟨hm,fun f y=>?_,(h.only.same fun s E=>Z.now s E).mono fun s E=>?_,fun f y=>?_,by rw[U,ae];exact hj⟩
 ·rcases B f y with⟨O,_⟩ | ⟨i,K,rfl⟩
  ·have J:=h.each f O
   rw[zg (by have:=J.num;omega)];exact⟨J.here.kept Z.kept (qm _),J.least,J.most,by have:=J.num;omega⟩
  ·show Ny Y _ _ (lK ent n cs (n+i))
   rw[zf K];exact⟨(aa i K).kept Z.kept (qm _),rfl,rfl,by show n+i<M.next;omega⟩
 ·rcases E with E | ⟨f,y,rfl⟩
  ·rcases ZA.1 E with E | E
   ·exact .inl (ZN _ E)
   ·obtain⟨i,K,rfl⟩:=Eu.1 E
    refine .inr ⟨mI lv (n+i) cs[i],?_,rfl⟩;rw[z];exact kg.2 (Ym _ (xy lv n cs i K))
  ·cases hr:rem.contains f.num with
   | true=>exact .inl (Ym _ (Zz.2 ⟨f.num,by simpa using hr,rfl⟩))
   | false =>
     refine .inr ⟨f,?_,rfl⟩;rw[z];exact kg.2 (ZN _ (ZB.2 ⟨y,by rw[hr];rfl⟩))
 ·rcases B f y with⟨O,_⟩ | ⟨i,K,rfl⟩
  ·exact h.lev f O
  ·exact af
theorem yW {z:dk}{lv:Int}{rem:List Nat}{j nx seq:Nat}(y:z=⟨ei ((k.files.filter fun f => !rem.contains f.num)++cX lv n cs),j,nx,seq⟩)(hn:∀f∈k.files,f.num<n) :
 (lO z (lK ent n cs)).Perm (((k.files.filter fun f => !rem.contains f.num).flatMap fun f=>ent f.num)++cs.flatten):=by
 unfold lO;rw[y];have B:(ei ((k.files.filter fun f => !rem.contains f.num)++cX lv n cs)).Perm ((k.files.filter fun f => !rem.contains f.num)++cX lv n cs):=YI _ JN;refine(B.flatMap_right _).trans ?_;rw[Z4,C1];refine List.Perm.append_right _ (List.Perm.of_eq ?_)
 have E:∀l:List bi,(∀f∈l,f.num<n)->(l.flatMap fun f=>lK ent n cs f.num)=l.flatMap fun f=>ent f.num:=by
  intro l
  induction l with
  | nil=>exact fun _=>rfl
  | cons f l K=>exact fun h=>by rw[Zp,Zp,zg (h f (Zj ..)),K fun g J=>h g (Zh _ J)]
 exact E _ fun f I=>hn f (ZB.1 I).1
theorem MA {B:aq}{y:Nat}{J:List db}{k':dk}(Z:D.sure=D.now)(I:jG B y J k')(O:ki D B):∀s,br B.sure s=br B.now s:=fun s=>by
 cases E:gc s with
 | false =>
   rw[O.now s E];rcases O.sure with h | h
   ·rw[h s E,Z]
   ·exact h s E
 | true =>
   obtain⟨gm,gj,K,M,a3,a4,U,V⟩:=I.disk.ex
   cases z:br B.now s with
   | some g =>
     rcases I.disk.own _ (fj z) E with e | e
     ·have e:s=nM:=e
      subst e;rw[U,<-K,z]
     ·have e:s=cD y:=e
      subst e;rw[V,<-M,z]
   | none =>
     cases Y:br B.sure s with
     | none=>rfl
     | some g =>
       rcases I.disk.Of _ (fj Y) E with e | e
       ·have e:s=nM:=e
        subst e;rw[K]at z;cases z
       ·have e:s=cD y:=e
        subst e;rw[M]at z;cases z
theorem qb.gone {P B:ByteArray->Prop}{nm:ByteArray}(h:qb D num xs k ent P)(M:gc nm=false)(K:∀f∈k.files,cY f.num≠nm)(J:∀s,P s->s≠nm->B s):qb {D with now:=cG D.now nm,sure:=cG D.now nm} num xs k ent B:=by
 have O:Kept (fun s=>gc s=true\/∃f∈k.files,s=cY f.num) D {D with now:=cG D.now nm,sure:=cG D.now nm}:=by
  refine(Kept.gone (nm:=nm) fun s y e=>?_).trans Kept.names;subst e;rcases y with y | ⟨f,E,e⟩
  ·rw[M]at y;cases y
  ·exact K f E e.symm
 have U:lN {D with now:=cG D.now nm,sure:=cG D.now nm} fun s=>B s\/∃f∈k.files,s=cY f.num:=(h.only.gone nm).mono fun s y=>by
  rcases y.1 with z | z
  ·exact .inl (J s z y.2)
  ·exact .inr z
 refine h.turn O rfl U ?_;have z:=h.man.few;have I:(tY (cG D.now nm)).length<=(tY D.now).length:=((kT D.now nm).filter _).length_le;exact Yl I z
open Classical in
end
def MG (D:aq)(n:Nat)(rs:List (List UInt8))(y:Nat):Prop:=∃g,br D.now (ez n)=some g/\cw D.files g=some ⟨al [] rs,y⟩
theorem MG.kept {P:ByteArray->Prop}{D D':aq}{n:Nat}{rs:List (List UInt8)}{z:Nat}(h:MG D n rs z)(k:Kept P D D')(hp:P (ez n)):MG D' n rs z:=by
 obtain⟨g,y,B⟩:=h;exact⟨g,(k.now _ hp).trans y,k.file _ _ _ hp y B⟩
end Go.Proofs.YtdfppjcaelghhaaGreatDoor
