/- facts of cells (they lie in AirI at this seat). -/
import Derived.Test.YthemdbgcamkecaaAirI
