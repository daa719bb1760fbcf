/-
  The shelf at this dump, by the name that texts of layer 05 import.
-/
import Derived.Test.YtcomcoolmabmgaaDoorSh
